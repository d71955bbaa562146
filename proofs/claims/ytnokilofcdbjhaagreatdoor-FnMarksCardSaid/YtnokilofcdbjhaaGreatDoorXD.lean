/- The text of marks: the program's. (Printed by xd.py.) -/
import Derived.Test.YtnokilofcdbjhaaGreatDoorXC
import Derived.Test.YtnokilofcdbjhaaGreatDoorGM
import Derived.Deep.Cut
namespace Go.Proofs.YtnokilofcdbjhaaGreatDoor
open Go.RowKit Go.Sort
set_option linter.unusedVariables false

theorem ownsRow_ext {w w' : World} {base size n : Nat} {e : TypeId} {v : Value} {xs : List Value} (h : w.ownsRow base e size v n xs) (x : Ext w w') : w'.ownsRow base e size v n xs := by
  refine ⟨h.1, ?_⟩
  rcases h.2 with hn | ⟨g, cap, cur, hv, hb, hgg, rest⟩
  · exact .inl hn
  · refine .inr ⟨g, cap, cur, hv, hb, ?_, rest⟩
    have hlt : g < w.heap.size := by
      rcases Nat.lt_or_ge g w.heap.size with h' | h'
      · exact h'
      · rw [Array.getElem?_eq_none h'] at hgg; cases hgg
    rw [Below.block x g hlt, hgg]
def Bld (g : Nat) (l : List UInt8) (w : World) : Prop := Lib.IsBuilder 53 5 g g (Lib.byteCells l) w
theorem Bld.ext {w w' : World} {g : Nat} {l : List UInt8} (h : Bld g l w) (x : Ext w w') : Bld g l w' := by
  have k : ∀ p, Lib.BuilderAt 53 5 g g p (Lib.byteCells l) w → Lib.BuilderAt 53 5 g g p (Lib.byteCells l) w' := fun p hp => by
    have hlt := hp.lt
    obtain ⟨hB, v, hb, ho, hne⟩ := hp
    exact ⟨hB, v, (Below.block x g hlt).trans hb, ownsRow_ext ho x, hne⟩
  rcases h with h | h
  · exact .inl (k _ h)
  · exact .inr (k _ h)
theorem Bld.new {w : World} {g : Nat} (hg : w.heap.size = g) : Bld g [] (w.alloc (.cells #[.pointer none, .slice none 0 0] 53)) := hg ▸ Lib.fresh_isBuilder _ _ w
theorem bs_cells (y : List UInt8) : Lib.strCells (bs y) = Lib.byteCells y := by
  rw [Lib.strCells_eq]
  congr 1
theorem i.write_m (g : Nat) (P y : List UInt8) (w : World) (h : Bld g P w) (hl : P.length + y.length ≤ 140737488355328) (hg : g ≤ w.heap.size) :
    Calls Tryz.prog 27 #[.pointer (some ⟨g, 0, none⟩), .string (bs y)] w fun e w' => (∃ z, e = .returned (.tuple #[.int .i64 z, .nilIface])) ∧ Bld g (P ++ y) w' ∧ Below g w w' :=
  (Builder_WriteString g g (Lib.byteCells P) (bs y) w h (by rw [Lib.byteCells_length, bsz]; exact hl) hg).mono fun e w' ⟨h1, h2, h3⟩ => ⟨⟨_, h1⟩, by
    rw [bs_cells] at h2
    have : Lib.byteCells P ++ Lib.byteCells y = Lib.byteCells (P ++ y) := by simp [Lib.byteCells]
    rw [this] at h2
    exact .inr h2, h3⟩
theorem i.string_m (g : Nat) (P : List UInt8) (w : World) (h : Bld g P w) (hg : g ≤ w.heap.size) :
    Calls Tryz.prog 29 #[.pointer (some ⟨g, 0, none⟩)] w fun e w' => e = .returned (.string (bs P)) ∧ Below g w w' := Builder_String_any g g P w h hg
/-- Lines of short rows are short. -/
theorem lines_len (h : UInt8) {l : List (List Int)} (hr : ∀ r ∈ l, r.length ≤ 9 ∧ ∀ x ∈ r, x.natAbs ≤ 1000) : (l.flatMap (rowT h)).length ≤ 10000 * l.length := by
  induction l with
  | nil => simp
  | cons r t ih =>
    have h1 := ih (fun y hy => hr y (List.mem_cons_of_mem _ hy))
    have h2 := hr r (List.mem_cons_self ..)
    have h3 := rowT_len h h2.2
    rw [List.flatMap_cons, List.length_append, List.length_cons]
    have : 1003 * r.length ≤ 1003 * 9 := Nat.mul_le_mul_left _ h2.1
    omega
theorem flat_succ {α : Type} (f : α → List UInt8) {l : List α} {k : Nat} {x : α} (h : l[k]? = some x) : (l.take (k + 1)).flatMap f = (l.take k).flatMap f ++ f x := by
  rw [List.take_add_one, h, List.flatMap_append]
  simp

set_option maxRecDepth 100000 in
set_option maxHeartbeats 4000000 in
theorem i.MarksText_m (w : World) (v : Value) (d : MD) (h : kM.rd w v d) (hok : kM.ok d) (ht : Tab10 w) :
    Calls Tryz.prog 5 #[v] w fun e w' => e = .returned (.tuple #[.string (bs (marksTextF d).1), .bool (marksTextF d).2]) ∧ Ext w w' := by
  obtain ⟨A, c, A', c', rfl, h1, h2⟩ := kM.lr h
  have hok : kdM.wt d ≤ 1048576 := hok
  have H1 := hide h1
  have H2 := hide h2
  have HT := hide ht
  have a1 := h1.1; have a2 := h1.2.1; have a3 := h2.1; have a4 := h2.2.1
  clear h h1 h2 ht
  obtain ⟨n, hn⟩ : ∃ n, Hid (d.1.length = n) := ⟨_, rfl⟩
  obtain ⟨n', hn'⟩ : ∃ n', Hid (d.2.length = n') := ⟨_, rfl⟩
  rw [hn.out, hn'.out]
  rw [hn.out] at a1
  rw [hn'.out] at a3
  obtain ⟨W0, hW0⟩ : ∃ W0, Hid (W0 = w.alloc (.cells #[.slice A n c, .slice A' n' c'] 25)) := ⟨_, rfl⟩
  have X0 : Hid (Ext w W0) := by rw [hW0.out]; exact Ext.alloc w _
  have B0 : Hid (Blk W0 w.heap.size #[.slice A n c, .slice A' n' c'] 25) := by rw [hW0.out]; exact Blk.new rfl _ _
  obtain ⟨F, hF⟩ : ∃ F, Hid ((marksTextF d).1 = F) := ⟨_, rfl⟩
  obtain ⟨G, hG⟩ : ∃ G, Hid ((marksTextF d).2 = G) := ⟨_, rfl⟩
  rw [hF.out, hG.out]
  go_enter Tryz.func5, Tryz.ntmps5
  go_wp2_with fail
  rw [← hW0.out]
  have hc := i.isMarks_any A A' c c' w.heap.size d W0 (H1.out.ext X0.out (Nat.le_refl _)) (H2.out.ext X0.out (Nat.le_refl _)) X0.out.size hok
  rw [hn.out, hn'.out] at hc
  refine hc.mono ?_
  rintro e w1 ⟨rfl, hx⟩
  have X1 := hide (X0.out.trans hx)
  replace B0 := hide (B0.out.ext hx)
  clear hx hc hW0
  cases hm : marksB d
  · have HM := hide hm
    clear hm
    go_wp2
    go_ret2
    refine ⟨?_, X1.out⟩
    rw [← hF.out, ← hG.out]
    simp [marksTextF, HM.out]
    rfl
  · have r1 := marksB_ok hm
    have l1 : n ≤ 14 := by have := r1.1; rw [hn.out] at this; exact this
    have l2 : n' ≤ 14 := by have := r1.2.1; rw [hn'.out] at this; omega
    have RW1 : Hid (∀ r ∈ d.1, 3 ≤ r.length ∧ r.length ≤ 9 ∧ ∀ x ∈ r, x.natAbs ≤ 1000) := fun r hr => by
      have := r1.2.2.2.2.1 r hr
      exact ⟨by have := r1.2.2.1; omega, by have := r1.2.2.2.1; omega, fun x hx => by have := this.2 x hx; omega⟩
    have RW2 : Hid (∀ r ∈ d.2, 3 ≤ r.length ∧ r.length ≤ 9 ∧ ∀ x ∈ r, x.natAbs ≤ 1000) := fun r hr => by
      have := r1.2.2.2.2.2 r hr
      exact ⟨by have := r1.2.2.1; omega, by have := r1.2.2.2.1; omega, fun x hx => by have := this.2 x hx; omega⟩
    have HF : Hid (F = marksT d) := by show _ = _; rw [← hF.out]; simp [marksTextF, hm]
    have HG : Hid (G = true) := by show _ = _; rw [← hG.out]; simp [marksTextF, hm]
    have LL1 : Hid (∀ k, ((d.1.take k).flatMap (rowT 103)).length ≤ 140000) := fun k => by
      have := lines_len 103 (l := d.1.take k) (fun r hr => (RW1.out r (List.mem_of_mem_take hr)).2)
      rw [List.length_take] at this
      have := hn.out
      omega
    have LL2 : Hid (∀ k, ((d.2.take k).flatMap (rowT 99)).length ≤ 140000) := fun k => by
      have := lines_len 99 (l := d.2.take k) (fun r hr => (RW2.out r (List.mem_of_mem_take hr)).2)
      rw [List.length_take] at this
      have := hn'.out
      omega
    clear hm r1 hF hG
    have cB := B0.out.cell
    obtain ⟨g, hg⟩ : ∃ g, Hid (w1.heap.size = g) := ⟨_, rfl⟩
    have wg : w.heap.size < g := by have := B0.out.lt; have := hg.out; omega
    obtain ⟨w2, hw2⟩ : ∃ w2, Hid (w2 = w1.alloc (.cells #[.pointer none, .slice none 0 0] 53)) := ⟨_, rfl⟩
    have BL : Hid (Bld g [] w2) := by rw [hw2.out]; exact Bld.new hg.out
    have X2 : Hid (Ext w1 w2) := by rw [hw2.out]; exact Ext.alloc _ _
    have gs : ∀ wq, Ext w1 wq → g ≤ wq.heap.size := fun wq x => by have := x.size; have := hg.out; omega
    have GS := hide gs
    clear gs
    go_upto_region 4 with fail
    rw [← hw2.out, hg.out]
    clear hw2
    have cB2 := (B0.out.ext X2.out).cell
    clear cB
    go_wp2
    clear cB2
    go_loopw [15] (fun s15 wr => ∃ k : Nat, k ≤ n ∧ s15 = .int .i64 k ∧ Bld g ((d.1.take k).flatMap (rowT 103)) wr ∧ Ext w1 wr) (fun s15 _ => n - (intOf s15).toNat)
    case atStart => exact ⟨0, Nat.zero_le _, by go_num, BL.out, X2.out⟩
    case round =>
      clear BL X2
      obtain ⟨k, hk, rfl, hb, hx⟩ := hrel
      have BL := hide hb
      have XW := hide hx
      clear hb hx
      by_cases hlt : k < n
      · obtain ⟨x, hxk⟩ : ∃ x, Hid (d.1[k]? = some x) := ⟨_, List.getElem?_eq_getElem (by rw [hn.out]; exact hlt)⟩
        have XX := hide (X1.out.trans XW.out)
        obtain ⟨b, off, Ak, ck, rfl, hb, hck, hrk⟩ := H1.out.row XX.out (Nat.le_refl _) hxk.out
        have rw1 := RW1.out x (List.mem_of_getElem? hxk.out)
        have iz : (k : Int) < (n : Int) := by omega
        have NT := hide (i.numbersText_m wr Ak ck w.heap.size x hrk XX.out.size (by omega) rw1.2.2 (HT.out.ext XX.out))
        have hl := rowT_len 103 rw1.2.2
        have HJ := hide (row_join 103 x (by rintro rfl; simp at rw1))
        have HP := hide (flat_succ (rowT 103) hxk.out)
        have lp := LL1.out k
        obtain ⟨S, hS⟩ : ∃ S, Hid (Lib.join (x.map Lib.itoa) [32] = S) := ⟨_, rfl⟩
        rw [hS.out] at NT HJ
        obtain ⟨R, hR⟩ : ∃ R, Hid (rowT 103 x = R) := ⟨_, rfl⟩
        rw [hR.out] at HJ HP hl
        have rl : R.length ≤ 10000 := by
          have : 1003 * x.length ≤ 1003 * 9 := Nat.mul_le_mul_left _ rw1.2.1
          omega
        have sl : S.length + 3 = R.length := by have := congrArg List.length HJ.out; simp only [List.length_cons, List.length_append, List.length_nil] at this; omega
        have hadd1 : ∀ w : World, (Op.stringOp .add ⟨#[103, 32]⟩ (bs S)).run Tryz.prog w = .ok (.string (bs (103 :: 32 :: S))) w := fun w => bs_add w [103, 32] S (by simp; omega)
        have hadd2 : ∀ w : World, (Op.stringOp .add (bs (103 :: 32 :: S)) ⟨#[10]⟩).run Tryz.prog w = .ok (.string (bs R)) w := fun w => by
          have := bs_add (P := Tryz.prog) w (103 :: 32 :: S) [10] (by simp; omega)
          rwa [show (103 :: 32 :: S ++ [10] : List UInt8) = R from HJ.out] at this
        obtain ⟨xl, hxl⟩ : ∃ xl, Hid (x.length = xl) := ⟨_, rfl⟩
        rw [hxl.out] at hck NT
        obtain ⟨P, hP⟩ : ∃ P, Hid ((d.1.take k).flatMap (rowT 103) = P) := ⟨_, rfl⟩
        rw [hP.out] at BL HP lp
        clear hrk rw1 hS hR hxl hP hl HJ
        skip
        skip
        skip
        go_wp2_with fail
        refine NT.out.mono ?_
        rintro e w3 ⟨rfl, x1⟩
        have BL3 := hide (BL.out.ext x1)
        have XW3 := hide (XW.out.trans x1)
        clear x1 BL XW NT hck
        go_wp2_with fail
        refine (i.write_m g (P) R w3 BL3.out (by omega) (GS.out _ XW3.out)).mono ?_
        rintro e w4 ⟨⟨z, rfl⟩, hb4, x4⟩
        have BL4 := hide hb4
        have XW4 : Hid (Ext w1 w4) := by
          have x3 : Below w1.heap.size w1 w3 := XW3.out
          rw [← hg.out] at x4
          exact x3.trans x4
        clear hb4 x4 XW3 BL3 hadd1 hadd2
        go_wp2
        go_roundw
        case rel => exact ⟨k + 1, by omega, by go_num, by rw [HP.out]; exact BL4.out, XW4.out⟩
        case measure => simp [intOf]; omega
      · obtain rfl : k = n := by omega
        rw [List.take_of_length_le (by rw [hn.out]; exact Nat.le_refl _)] at BL
        have BL1 := hide BL.out
        have X2 := hide XW.out
        clear BL XW
        have BL := BL1
        clear BL1
        have cB := (B0.out.ext X2.out).cell
        go_wp2
        clear cB
        go_loopw [28] (fun s15 wr => ∃ k : Nat, k ≤ n' ∧ s15 = .int .i64 k ∧ Bld g (d.1.flatMap (rowT 103) ++ (d.2.take k).flatMap (rowT 99)) wr ∧ Ext w1 wr) (fun s15 _ => n' - (intOf s15).toNat)
        case atStart => exact ⟨0, Nat.zero_le _, by go_num, by simpa using BL.out, X2.out⟩
        case round =>
          clear BL X2
          obtain ⟨k, hk, rfl, hb, hx⟩ := hrel
          have BL := hide hb
          have XW := hide hx
          clear hb hx
          by_cases hlt : k < n'
          · obtain ⟨x, hxk⟩ : ∃ x, Hid (d.2[k]? = some x) := ⟨_, List.getElem?_eq_getElem (by rw [hn'.out]; exact hlt)⟩
            have XX := hide (X1.out.trans XW.out)
            obtain ⟨b, off, Ak, ck, rfl, hb, hck, hrk⟩ := H2.out.row XX.out (Nat.le_refl _) hxk.out
            have rw1 := RW2.out x (List.mem_of_getElem? hxk.out)
            have iz : (k : Int) < (n' : Int) := by omega
            have NT := hide (i.numbersText_m wr Ak ck w.heap.size x hrk XX.out.size (by omega) rw1.2.2 (HT.out.ext XX.out))
            have hl := rowT_len 99 rw1.2.2
            have HJ := hide (row_join 99 x (by rintro rfl; simp at rw1))
            have HP := hide (flat_succ (rowT 99) hxk.out)
            have lp := LL2.out k
            obtain ⟨S, hS⟩ : ∃ S, Hid (Lib.join (x.map Lib.itoa) [32] = S) := ⟨_, rfl⟩
            rw [hS.out] at NT HJ
            obtain ⟨R, hR⟩ : ∃ R, Hid (rowT 99 x = R) := ⟨_, rfl⟩
            rw [hR.out] at HJ HP hl
            have rl : R.length ≤ 10000 := by
              have : 1003 * x.length ≤ 1003 * 9 := Nat.mul_le_mul_left _ rw1.2.1
              omega
            have sl : S.length + 3 = R.length := by have := congrArg List.length HJ.out; simp only [List.length_cons, List.length_append, List.length_nil] at this; omega
            have hadd1 : ∀ w : World, (Op.stringOp .add ⟨#[99, 32]⟩ (bs S)).run Tryz.prog w = .ok (.string (bs (99 :: 32 :: S))) w := fun w => bs_add w [99, 32] S (by simp; omega)
            have hadd2 : ∀ w : World, (Op.stringOp .add (bs (99 :: 32 :: S)) ⟨#[10]⟩).run Tryz.prog w = .ok (.string (bs R)) w := fun w => by
              have := bs_add (P := Tryz.prog) w (99 :: 32 :: S) [10] (by simp; omega)
              rwa [show (99 :: 32 :: S ++ [10] : List UInt8) = R from HJ.out] at this
            obtain ⟨xl, hxl⟩ : ∃ xl, Hid (x.length = xl) := ⟨_, rfl⟩
            rw [hxl.out] at hck NT
            obtain ⟨P, hP⟩ : ∃ P, Hid ((d.2.take k).flatMap (rowT 99) = P) := ⟨_, rfl⟩
            rw [hP.out] at BL HP lp
            clear hrk rw1 hS hR hxl hP hl HJ
            obtain ⟨Q, hQ⟩ : ∃ Q, Hid (d.1.flatMap (rowT 103) = Q) := ⟨_, rfl⟩
            have ql : Q.length ≤ 140000 := by have := LL1.out 14; rw [List.take_of_length_le (by rw [hn.out]; omega), hQ.out] at this; exact this
            rw [hQ.out] at BL
            go_wp2_with fail
            refine NT.out.mono ?_
            rintro e w3 ⟨rfl, x1⟩
            have BL3 := hide (BL.out.ext x1)
            have XW3 := hide (XW.out.trans x1)
            clear x1 BL XW NT hck
            go_wp2_with fail
            refine (i.write_m g (Q ++ P) R w3 BL3.out (by rw [List.length_append]; omega) (GS.out _ XW3.out)).mono ?_
            rintro e w4 ⟨⟨z, rfl⟩, hb4, x4⟩
            have BL4 := hide hb4
            have XW4 : Hid (Ext w1 w4) := by
              have x3 : Below w1.heap.size w1 w3 := XW3.out
              rw [← hg.out] at x4
              exact x3.trans x4
            clear hb4 x4 XW3 BL3 hadd1 hadd2
            go_wp2
            go_roundw
            case rel => exact ⟨k + 1, by omega, by go_num, by rw [hQ.out, HP.out, ← List.append_assoc]; exact BL4.out, XW4.out⟩
            case measure => simp [intOf]; omega
          · obtain rfl : k = n' := by omega
            rw [List.take_of_length_le (by rw [hn'.out]; exact Nat.le_refl _)] at BL
            go_wp2_with fail
            refine (i.string_m g _ wr BL.out (GS.out _ XW.out)).mono ?_
            rintro e w3 ⟨rfl, x3⟩
            have XW4 : Hid (Ext w1 w3) := by
              have x4 : Below w1.heap.size w1 wr := XW.out
              rw [← hg.out] at x3
              exact x4.trans x3
            go_wp2
            go_ret2
            exact ⟨by rw [HF.out, HG.out]; rfl, X1.out.trans XW4.out⟩
end Go.Proofs.YtnokilofcdbjhaaGreatDoor
