/- The text of marks: the reference's. (Printed by xe.py.) -/
import Derived.Test.YtnokilofcdbjhaaGreatDoorXB
import Derived.Test.YtnokilofcdbjhaaGreatDoorGM
import Derived.Deep.Cut
namespace Go.Proofs.YtnokilofcdbjhaaGreatDoor
open Go.RowKit Go.Sort
set_option linter.unusedVariables false

theorem wordsX_succ {l : List Int} {k : Nat} {x : Int} (h : l[k]? = some x) : wordsX (l.take (k + 1)) = wordsX (l.take k) ++ 32 :: Lib.itoa x := by
  unfold wordsX
  rw [List.take_add_one, h, List.flatMap_append]
  simp
theorem wordsX_len {l : List Int} (hr : ∀ x ∈ l, x.natAbs ≤ 1000) : (wordsX l).length ≤ 1003 * l.length := by
  induction l with
  | nil => simp [wordsX]
  | cons x r ih =>
    have h1 := ih (fun y hy => hr y (List.mem_cons_of_mem _ hy))
    have h2 := itoa_len (hr x (List.mem_cons_self ..))
    unfold wordsX at h1 ⊢
    rw [List.flatMap_cons, List.length_append, List.length_cons, List.length_cons]
    omega
theorem linesX_succ (h : UInt8) {l : List (List Int)} {k : Nat} {x : List Int} (hx : l[k]? = some x) : (l.take (k + 1)).flatMap (rowT h) = (l.take k).flatMap (rowT h) ++ rowT h x := by
  rw [List.take_add_one, hx, List.flatMap_append]
  simp
theorem linesX_len (h : UInt8) {l : List (List Int)} (hr : ∀ r ∈ l, r.length ≤ 9 ∧ ∀ x ∈ r, x.natAbs ≤ 1000) : (l.flatMap (rowT h)).length ≤ 10000 * l.length := by
  induction l with
  | nil => simp
  | cons r t ih =>
    have h1 := ih (fun y hy => hr y (List.mem_cons_of_mem _ hy))
    have h2 := hr r (List.mem_cons_self ..)
    have h3 := wordsX_len h2.2
    have : 1003 * r.length ≤ 1003 * 9 := Nat.mul_le_mul_left _ h2.1
    have e : rowT h r = h :: (wordsX r ++ [10]) := rfl
    rw [List.flatMap_cons, List.length_append, List.length_cons, e]
    simp only [List.length_cons, List.length_append, List.length_nil]
    omega
def preX (d : MD) (k : Nat) : List UInt8 := if k = 0 then [] else if k = 1 then d.1.flatMap (rowT 103) else marksT d

set_option maxRecDepth 100000 in
set_option maxHeartbeats 4000000 in
theorem s.mkText_g (w : World) (v : Value) (d : MD) (h : kM.rd w v d) (q1 : d.1.length ≤ 15) (q2 : d.2.length = 3) (q3 : ∀ r ∈ d.1, r.length ≤ 9 ∧ ∀ x ∈ r, x.natAbs ≤ 1000) (q4 : ∀ r ∈ d.2, r.length ≤ 9 ∧ ∀ x ∈ r, x.natAbs ≤ 1000) :
    Calls Tryz.prog 31 #[v] w fun e w' => e = .returned (.string (bs (marksT d))) ∧ Ext w w' := by
  obtain ⟨A, c, A', c', rfl, h1, h2⟩ := kM.lr h
  have H1 := hide h1
  have H2 := hide h2
  have a1 := h1.1; have a2 := h1.2.1; have a3 := h2.1; have a4 := h2.2.1
  clear h h1 h2
  obtain ⟨n, hn⟩ : ∃ n, Hid (d.1.length = n) := ⟨_, rfl⟩
  obtain ⟨n', hn'⟩ : ∃ n', Hid (d.2.length = n') := ⟨_, rfl⟩
  rw [hn.out, hn'.out]
  rw [hn.out] at a1
  rw [hn'.out] at a3
  have l1 : n ≤ 15 := by rw [hn.out] at q1; exact q1
  have l2 : n' ≤ 15 := by rw [hn'.out] at q2; omega
  have RW1 : Hid (∀ r ∈ d.1, r.length ≤ 9 ∧ ∀ x ∈ r, x.natAbs ≤ 1000) := q3
  have RW2 : Hid (∀ r ∈ d.2, r.length ≤ 9 ∧ ∀ x ∈ r, x.natAbs ≤ 1000) := q4
  have LL1 : Hid (∀ k, ((d.1.take k).flatMap (rowT 103)).length ≤ 150000) := fun k => by
    have := linesX_len 103 (l := d.1.take k) (fun r hr => RW1.out r (List.mem_of_mem_take hr))
    rw [List.length_take] at this
    have := hn.out
    omega
  have LL2 : Hid (∀ k, ((d.2.take k).flatMap (rowT 99)).length ≤ 150000) := fun k => by
    have := linesX_len 99 (l := d.2.take k) (fun r hr => RW2.out r (List.mem_of_mem_take hr))
    rw [List.length_take] at this
    have := hn'.out
    omega
  have LQ : Hid (∀ k, k ≤ 1 → (preX d k).length ≤ 150000) := fun k hk => by
    unfold preX
    split
    · simp
    · have := LL1.out 15
      rw [List.take_of_length_le (by rw [hn.out]; omega)] at this
      rw [if_pos (by omega)]
      exact this
  obtain ⟨T, hT⟩ : ∃ T, Hid (marksT d = T) := ⟨_, rfl⟩
  rw [hT.out]
  clear q1 q2 q3 q4
  obtain ⟨W0, hW0⟩ : ∃ W0, Hid (W0 = w.alloc (.cells #[.slice A n c, .slice A' n' c'] 25)) := ⟨_, rfl⟩
  have X0 : Hid (Ext w W0) := by rw [hW0.out]; exact Ext.alloc w _
  have B0 : Hid (Blk W0 w.heap.size #[.slice A n c, .slice A' n' c'] 25) := by rw [hW0.out]; exact Blk.new rfl _ _
  obtain ⟨W1, hW1⟩ : ∃ W1, Hid (W1 = W0.alloc (.cells #[.slice A n c, .slice A' n' c'] 23)) := ⟨_, rfl⟩
  obtain ⟨g, hg⟩ : ∃ g, Hid (W0.heap.size = g) := ⟨_, rfl⟩
  have X1 : Hid (Ext w W1) := by rw [hW1.out]; exact X0.out.trans (Ext.alloc _ _)
  have B1 : Hid (Blk W1 g #[.slice A n c, .slice A' n' c'] 23) := by rw [hW1.out]; exact Blk.new hg.out _ _
  go_enter Tryz.func31, Tryz.ntmps31
  go_upto_region 2 with fail
  rw [← hW0.out]
  clear hW0
  have cB := B0.out.cell
  go_wp2
  rw [← hW1.out, hg.out]
  clear hW1 cB
  go_loopw [3, 16] (fun s3 s16 wr => ∃ (k : Nat) (z : Int), z = k ∧ k ≤ 2 ∧ s16 = .int .i64 z ∧ s3 = .string (bs (preX d k)) ∧ Ext W1 wr) (fun _ s16 _ => 2 - (intOf s16).toNat)
  case atStart => exact ⟨0, 0, rfl, by omega, rfl, rfl, Ext.refl _⟩
  case round =>
    obtain ⟨k, z, hz, hk, rfl, rfl, hx⟩ := hrel
    have XW := hide hx
    clear hx
    by_cases hlt : k < 2
    · rcases (show k = 0 ∨ k = 1 by omega) with rfl | rfl
      · obtain rfl : z = 0 := by omega
        clear hz
        have cB := (B1.out.ext XW.out).cell
        have HQ := LQ.out 0 (by omega)
        obtain ⟨Q, hQ⟩ : ∃ Q, Hid (preX d 0 = Q) := ⟨_, rfl⟩
        rw [hQ.out] at HQ ⊢
        have X9 : Hid (Ext w wr) := X1.out.trans XW.out
        go_wp2
        clear cB
        go_loopw [3, 23] (fun s3 s23 wr => ∃ k : Nat, k ≤ n ∧ s23 = .int .i64 k ∧ s3 = .string (bs (Q ++ (d.1.take k).flatMap (rowT 103))) ∧ Ext W1 wr) (fun _ s23 _ => n - (intOf s23).toNat)
        case atStart => exact ⟨0, Nat.zero_le _, by go_num, by simp, XW.out⟩
        case round =>
          clear XW X9
          obtain ⟨k, hk, rfl, rfl, hx⟩ := hrel
          have XW := hide hx
          clear hx
          by_cases hlt : k < n
          · obtain ⟨x, hxk⟩ : ∃ x, Hid (d.1[k]? = some x) := ⟨_, List.getElem?_eq_getElem (by rw [hn.out]; exact hlt)⟩
            have XX := hide (X1.out.trans XW.out)
            obtain ⟨b, off, Ak, ck, rfl, hb, hck, hrk⟩ := H1.out.row XX.out (Nat.le_refl _) hxk.out
            have HR := hide hrk
            have RX := hide (RW1.out x (List.mem_of_getElem? hxk.out))
            have ck1 := hrk.1; have ck2 := hrk.2.1
            clear hrk
            have iz : (k : Int) < (n : Int) := by omega
            have HP := hide (linesX_succ 103 hxk.out)
            have lp := LL1.out k
            have HW : Hid (rowT 103 x = 103 :: (wordsX x ++ [10])) := rfl
            have LW : Hid (∀ j, (wordsX (x.take j)).length ≤ 10000) := fun j => by
              have := wordsX_len (l := x.take j) (fun y hy => RX.out.2 y (List.mem_of_mem_take hy))
              have h2 : 1003 * (x.take j).length ≤ 1003 * 9 := Nat.mul_le_mul_left _ (by rw [List.length_take]; have := RX.out.1; omega)
              omega
            obtain ⟨P, hP⟩ : ∃ P, Hid (Q ++ (d.1.take k).flatMap (rowT 103) = P) := ⟨_, rfl⟩
            have PL : P.length ≤ 305000 := by rw [← hP.out, List.length_append]; omega
            rw [hP.out]
            obtain ⟨xl, hxl⟩ : ∃ xl, Hid (x.length = xl) := ⟨_, rfl⟩
            rw [hxl.out] at hck ck1
            have xl9 : xl ≤ 9 := by have := RX.out.1; rw [hxl.out] at this; exact this
            have hadd1 : ∀ w : World, (Op.stringOp .add (bs P) ⟨#[103]⟩).run Tryz.prog w = .ok (.string (bs (P ++ [103]))) w := fun w => bs_add w P [103] (by simp; omega)
            obtain ⟨w3, hw3⟩ : ∃ w3, Hid (w3 = wr.alloc (.cells #[.string ⟨#[103]⟩, .string ⟨#[99]⟩] 9)) := ⟨_, rfl⟩
            have X3 : Hid (Ext W1 w3) := by rw [hw3.out]; exact XW.out.trans (Ext.alloc _ _)
            have HR3 : Hid (LR kdInt w3 w.heap.size Ak ck x) := by rw [hw3.out]; exact HR.out.ext (Ext.alloc _ _) (X1.out.trans XW.out).size
            go_wp2
            rw [← hw3.out]
            clear hw3 hck hadd1
            go_loopw [3, 35] (fun s3 s35 wq => ∃ j : Nat, j ≤ xl ∧ s35 = .int .i64 j ∧ s3 = .string (bs (P ++ 103 :: wordsX (x.take j))) ∧ Ext w3 wq) (fun _ s35 _ => xl - (intOf s35).toNat)
            case atStart => exact ⟨0, Nat.zero_le _, by go_num, by simp [wordsX], Ext.refl _⟩
            case round =>
              obtain ⟨j, hj, rfl, rfl, hx⟩ := hrel
              have XQ := hide hx
              clear hx
              by_cases hlj : j < xl
              · obtain ⟨y, hyj⟩ : ∃ y, Hid (x[j]? = some y) := ⟨_, List.getElem?_eq_getElem (by rw [hxl.out]; exact hlj)⟩
                obtain ⟨b2, off2, cs, rfl, hb2, hcs, hc⟩ := (HR3.out.ext XQ.out (X1.out.trans X3.out).size).2.2 j y hyj.out
                obtain rfl : cs = [.int .i64 y] := hcs
                have q1 := hc 0 _ rfl
                rw [show off2 + (j * kdInt.size + 0) = off2 + j from by show off2 + (j * 1 + 0) = off2 + j; omega] at q1
                clear hc
                have jz : (j : Int) < (xl : Int) := by omega
                have y9 := RX.out.2 y (List.mem_of_getElem? hyj.out)
                have IT := hide (s.l1Int_m y wr (by omega) (by omega))
                have HS := hide (wordsX_succ hyj.out)
                have hl1 := itoa_len y9
                have hl2 := LW.out j
                obtain ⟨D, hD⟩ : ∃ D, Hid (Lib.itoa y = D) := ⟨_, rfl⟩
                rw [hD.out] at IT HS hl1
                obtain ⟨R, hR⟩ : ∃ R, Hid (P ++ 103 :: wordsX (x.take j) = R) := ⟨_, rfl⟩
                have hl3 : R.length ≤ 320001 := by rw [← hR.out]; simp; omega
                rw [hR.out]
                have hadd1 : ∀ w : World, (Op.stringOp .add ⟨#[32]⟩ (bs D)).run Tryz.prog w = .ok (.string (bs (32 :: D))) w := fun w => bs_add w [32] D (by simp; omega)
                have hadd2 : ∀ w : World, (Op.stringOp .add (bs R) (bs (32 :: D))).run Tryz.prog w = .ok (.string (bs (R ++ 32 :: D))) w := fun w => bs_add w R (32 :: D) (by simp; omega)
                clear hD hl1 hl2 hl3 y9
                go_wp2_with fail
                refine IT.out.mono ?_
                rintro e w4 ⟨rfl, x4⟩
                have XQ4 := hide (XQ.out.trans x4)
                clear x4 XQ q1
                go_wp2
                go_roundw
                case rel => exact ⟨j + 1, by omega, by go_num, by rw [HS.out, ← hR.out]; simp, XQ4.out⟩
                case measure => simp [intOf]; omega
              · obtain rfl : j = xl := by omega
                have hl2 := LW.out j
                rw [List.take_of_length_le (by rw [hxl.out]; exact Nat.le_refl _)] at hl2 ⊢
                have hadd : ∀ w : World, (Op.stringOp .add (bs (P ++ 103 :: wordsX x)) ⟨#[10]⟩).run Tryz.prog w = .ok (.string (bs (P ++ 103 :: wordsX x ++ [10]))) w := fun w => bs_add w _ [10] (by simp; omega)
                have X5 := hide (X3.out.trans XQ.out)
                generalize hU : P ++ 103 :: wordsX x ++ [10] = U at hadd
                generalize hV : P ++ 103 :: wordsX x = V at hadd
                have HU := hide hU
                clear hU hV hl2
                go_wp2
                go_roundw
                case rel => exact ⟨k + 1, by omega, by go_num, by rw [← HU.out, HP.out, HW.out, ← hP.out]; simp, X5.out⟩
                case measure => simp [intOf]; omega
          · obtain rfl : k = n := by omega
            rw [List.take_of_length_le (by rw [hn.out]; exact Nat.le_refl _)]
            have HE : Hid (Q ++ d.1.flatMap (rowT 103) = preX d 1) := by show _ = _; rw [← hQ.out]; simp [preX]
            rw [HE.out]
            go_wp2
            go_roundw
            case rel => exact ⟨1, 1, rfl, by omega, rfl, rfl, XW.out⟩
            case measure => simp [intOf]
      · obtain rfl : z = 1 := by omega
        clear hz
        have cB := (B1.out.ext XW.out).cell
        have HQ := LQ.out 1 (by omega)
        obtain ⟨Q, hQ⟩ : ∃ Q, Hid (preX d 1 = Q) := ⟨_, rfl⟩
        rw [hQ.out] at HQ ⊢
        have X9 : Hid (Ext w wr) := X1.out.trans XW.out
        go_wp2
        clear cB
        go_loopw [3, 23] (fun s3 s23 wr => ∃ k : Nat, k ≤ n' ∧ s23 = .int .i64 k ∧ s3 = .string (bs (Q ++ (d.2.take k).flatMap (rowT 99))) ∧ Ext W1 wr) (fun _ s23 _ => n' - (intOf s23).toNat)
        case atStart => exact ⟨0, Nat.zero_le _, by go_num, by simp, XW.out⟩
        case round =>
          clear XW X9
          obtain ⟨k, hk, rfl, rfl, hx⟩ := hrel
          have XW := hide hx
          clear hx
          by_cases hlt : k < n'
          · obtain ⟨x, hxk⟩ : ∃ x, Hid (d.2[k]? = some x) := ⟨_, List.getElem?_eq_getElem (by rw [hn'.out]; exact hlt)⟩
            have XX := hide (X1.out.trans XW.out)
            obtain ⟨b, off, Ak, ck, rfl, hb, hck, hrk⟩ := H2.out.row XX.out (Nat.le_refl _) hxk.out
            have HR := hide hrk
            have RX := hide (RW2.out x (List.mem_of_getElem? hxk.out))
            have ck1 := hrk.1; have ck2 := hrk.2.1
            clear hrk
            have iz : (k : Int) < (n' : Int) := by omega
            have HP := hide (linesX_succ 99 hxk.out)
            have lp := LL2.out k
            have HW : Hid (rowT 99 x = 99 :: (wordsX x ++ [10])) := rfl
            have LW : Hid (∀ j, (wordsX (x.take j)).length ≤ 10000) := fun j => by
              have := wordsX_len (l := x.take j) (fun y hy => RX.out.2 y (List.mem_of_mem_take hy))
              have h2 : 1003 * (x.take j).length ≤ 1003 * 9 := Nat.mul_le_mul_left _ (by rw [List.length_take]; have := RX.out.1; omega)
              omega
            obtain ⟨P, hP⟩ : ∃ P, Hid (Q ++ (d.2.take k).flatMap (rowT 99) = P) := ⟨_, rfl⟩
            have PL : P.length ≤ 305000 := by rw [← hP.out, List.length_append]; omega
            rw [hP.out]
            obtain ⟨xl, hxl⟩ : ∃ xl, Hid (x.length = xl) := ⟨_, rfl⟩
            rw [hxl.out] at hck ck1
            have xl9 : xl ≤ 9 := by have := RX.out.1; rw [hxl.out] at this; exact this
            have hadd1 : ∀ w : World, (Op.stringOp .add (bs P) ⟨#[99]⟩).run Tryz.prog w = .ok (.string (bs (P ++ [99]))) w := fun w => bs_add w P [99] (by simp; omega)
            obtain ⟨w3, hw3⟩ : ∃ w3, Hid (w3 = wr.alloc (.cells #[.string ⟨#[103]⟩, .string ⟨#[99]⟩] 9)) := ⟨_, rfl⟩
            have X3 : Hid (Ext W1 w3) := by rw [hw3.out]; exact XW.out.trans (Ext.alloc _ _)
            have HR3 : Hid (LR kdInt w3 w.heap.size Ak ck x) := by rw [hw3.out]; exact HR.out.ext (Ext.alloc _ _) (X1.out.trans XW.out).size
            go_wp2
            rw [← hw3.out]
            clear hw3 hck hadd1
            go_loopw [3, 35] (fun s3 s35 wq => ∃ j : Nat, j ≤ xl ∧ s35 = .int .i64 j ∧ s3 = .string (bs (P ++ 99 :: wordsX (x.take j))) ∧ Ext w3 wq) (fun _ s35 _ => xl - (intOf s35).toNat)
            case atStart => exact ⟨0, Nat.zero_le _, by go_num, by simp [wordsX], Ext.refl _⟩
            case round =>
              obtain ⟨j, hj, rfl, rfl, hx⟩ := hrel
              have XQ := hide hx
              clear hx
              by_cases hlj : j < xl
              · obtain ⟨y, hyj⟩ : ∃ y, Hid (x[j]? = some y) := ⟨_, List.getElem?_eq_getElem (by rw [hxl.out]; exact hlj)⟩
                obtain ⟨b2, off2, cs, rfl, hb2, hcs, hc⟩ := (HR3.out.ext XQ.out (X1.out.trans X3.out).size).2.2 j y hyj.out
                obtain rfl : cs = [.int .i64 y] := hcs
                have q1 := hc 0 _ rfl
                rw [show off2 + (j * kdInt.size + 0) = off2 + j from by show off2 + (j * 1 + 0) = off2 + j; omega] at q1
                clear hc
                have jz : (j : Int) < (xl : Int) := by omega
                have y9 := RX.out.2 y (List.mem_of_getElem? hyj.out)
                have IT := hide (s.l1Int_m y wr (by omega) (by omega))
                have HS := hide (wordsX_succ hyj.out)
                have hl1 := itoa_len y9
                have hl2 := LW.out j
                obtain ⟨D, hD⟩ : ∃ D, Hid (Lib.itoa y = D) := ⟨_, rfl⟩
                rw [hD.out] at IT HS hl1
                obtain ⟨R, hR⟩ : ∃ R, Hid (P ++ 99 :: wordsX (x.take j) = R) := ⟨_, rfl⟩
                have hl3 : R.length ≤ 320001 := by rw [← hR.out]; simp; omega
                rw [hR.out]
                have hadd1 : ∀ w : World, (Op.stringOp .add ⟨#[32]⟩ (bs D)).run Tryz.prog w = .ok (.string (bs (32 :: D))) w := fun w => bs_add w [32] D (by simp; omega)
                have hadd2 : ∀ w : World, (Op.stringOp .add (bs R) (bs (32 :: D))).run Tryz.prog w = .ok (.string (bs (R ++ 32 :: D))) w := fun w => bs_add w R (32 :: D) (by simp; omega)
                clear hD hl1 hl2 hl3 y9
                go_wp2_with fail
                refine IT.out.mono ?_
                rintro e w4 ⟨rfl, x4⟩
                have XQ4 := hide (XQ.out.trans x4)
                clear x4 XQ q1
                go_wp2
                go_roundw
                case rel => exact ⟨j + 1, by omega, by go_num, by rw [HS.out, ← hR.out]; simp, XQ4.out⟩
                case measure => simp [intOf]; omega
              · obtain rfl : j = xl := by omega
                have hl2 := LW.out j
                rw [List.take_of_length_le (by rw [hxl.out]; exact Nat.le_refl _)] at hl2 ⊢
                have hadd : ∀ w : World, (Op.stringOp .add (bs (P ++ 99 :: wordsX x)) ⟨#[10]⟩).run Tryz.prog w = .ok (.string (bs (P ++ 99 :: wordsX x ++ [10]))) w := fun w => bs_add w _ [10] (by simp; omega)
                have X5 := hide (X3.out.trans XQ.out)
                generalize hU : P ++ 99 :: wordsX x ++ [10] = U at hadd
                generalize hV : P ++ 99 :: wordsX x = V at hadd
                have HU := hide hU
                clear hU hV hl2
                go_wp2
                go_roundw
                case rel => exact ⟨k + 1, by omega, by go_num, by rw [← HU.out, HP.out, HW.out, ← hP.out]; simp, X5.out⟩
                case measure => simp [intOf]; omega
          · obtain rfl : k = n' := by omega
            rw [List.take_of_length_le (by rw [hn'.out]; exact Nat.le_refl _)]
            have HE : Hid (Q ++ d.2.flatMap (rowT 99) = preX d 2) := by show _ = _; rw [← hQ.out]; simp [preX, marksT]
            rw [HE.out]
            go_wp2
            go_roundw
            case rel => exact ⟨2, 2, rfl, by omega, rfl, rfl, XW.out⟩
            case measure => simp [intOf]
    · obtain rfl : k = 2 := by omega
      obtain rfl : z = 2 := by omega
      clear hz
      have HE : Hid (preX d 2 = T) := by show _ = _; rw [← hT.out]; rfl
      rw [HE.out]
      go_wp2
      go_ret
      exact ⟨rfl, X1.out.trans XW.out⟩
theorem s.mkText_m (w : World) (v : Value) (d : MD) (h : kM.rd w v d) (hm : marksB d = true) :
    Calls Tryz.prog 31 #[v] w fun e w' => e = .returned (.string (bs (marksT d))) ∧ Ext w w' := by
  have r1 := marksB_ok hm
  refine s.mkText_g w v d h (by omega) r1.2.1 (fun r hr => ?_) (fun r hr => ?_)
  · have := r1.2.2.2.2.1 r hr
    exact ⟨by have := r1.2.2.2.1; omega, fun x hx => by have := this.2 x hx; omega⟩
  · have := r1.2.2.2.2.2 r hr
    exact ⟨by have := r1.2.2.2.1; omega, fun x hx => by have := this.2 x hx; omega⟩
/-- A text of small marks is small. -/
theorem marksT_len {d : MD} (q1 : d.1.length ≤ 15) (q2 : d.2.length = 3) (q3 : ∀ r ∈ d.1, r.length ≤ 9 ∧ ∀ x ∈ r, x.natAbs ≤ 1000) (q4 : ∀ r ∈ d.2, r.length ≤ 9 ∧ ∀ x ∈ r, x.natAbs ≤ 1000) : (marksT d).length ≤ 180000 := by
  have h1 := linesX_len 103 q3
  have h2 := linesX_len 99 q4
  unfold marksT
  rw [List.length_append]
  omega
end Go.Proofs.YtnokilofcdbjhaaGreatDoor
