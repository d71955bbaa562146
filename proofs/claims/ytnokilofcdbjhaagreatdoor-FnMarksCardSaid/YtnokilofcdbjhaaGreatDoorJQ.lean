/- A text spoilt by one or two edits; the draw of a text of marks. -/
import Derived.Test.YtnokilofcdbjhaaGreatDoorDI
import Derived.Test.YtnokilofcdbjhaaGreatDoorXE
import Derived.Test.YtnokilofcdbjhaaGreatDoorXM
import Derived.Deep.QuietTactic
import Derived.BigQuiet
namespace Go.Proofs.YtnokilofcdbjhaaGreatDoor
open Go.RowKit Go.Sort
set_option linter.unusedVariables false

set_option maxRecDepth 100000 in
set_option maxHeartbeats 4000000 in
theorem cu.spoilt_m (w : World) (g N : Nat) (t u : List UInt8) (h : Cur w g N) (hN : N ≤ 4611686018410000000) (ht : t.length ≤ 1000000) (hu : 1 ≤ u.length) (hu2 : u.length ≤ 1000) :
    Calls Tryz.prog 44 #[.pointer (some ⟨g, 0, none⟩), .string (bs t), .string (bs u)] w fun e w' => ∃ y : List UInt8, e = .returned (.string (bs y)) ∧ y.length ≤ t.length + 2 ∧ TchF [g] w w' := by
  have PK := hide (fun (wq : World) (m : Int) (M : Nat) (hq : Cur wq g M) (hM : M ≤ 4611686018427000000) (hm : InR m) => cu.pick_m wq g M m hq hM hm)
  have C0 := hide h
  have hsu : (bs u).size = u.length := bsz u
  clear h
  go_enter Tryz.func44, Tryz.ntmps44
  go_wp2_with fail
  refine (PK.out w 2 N C0.out (by omega) (by unfold InR; omega)).mono ?_
  rintro e w1 ⟨r, rfl, r0, r1, -, c1, k1⟩
  have r2 := r1 (by omega)
  have C1 := hide c1
  have K1 := hide k1
  clear c1 k1 r1 C0
  go_wp2
  go_loopw [7, 1] (fun s7 s1 wr => ∃ (k : Nat) (y : List UInt8), s7 = .int .i64 k ∧ s1 = .string (bs y) ∧ k ≤ 2 ∧ y.length + k ≤ t.length + 2 ∧ Cur wr g (N + 2 + 6 * (2 - k)) ∧ TchF [g] w wr) (fun s7 _ _ => (intOf s7).toNat)
  case atStart => exact ⟨(1 + r).toNat, t, by go_num, rfl, by omega, by omega, C1.out.more (by omega), K1.out⟩
  case round =>
    clear C1 K1
    obtain ⟨k, y, rfl, rfl, hk, hy, cur, kt⟩ := hrel
    have CU := hide cur
    have KT := hide kt
    clear cur kt
    have hsz : (bs y).size = y.length := bsz y
    by_cases hk0 : 0 < k
    · have k1 : (0 : Int) < (k : Int) := by omega
      by_cases hy0 : 0 < y.length
      · have y1 : (0 : Int) < (y.length : Int) := by omega
        go_wp2_with fail
        refine (PK.out wr (y.length : Int) _ CU.out (by omega) (by unfold InR; omega)).mono ?_
        rintro e w2 ⟨q, rfl, q0, q1, -, c2, k2⟩
        obtain ⟨i, rfl⟩ : ∃ i : Nat, q = i := ⟨q.toNat, by omega⟩
        have hi : i < y.length := by have := q1 (by omega); omega
        have C2 := hide c2
        have K2 := hide (KT.out.trans k2)
        clear c2 k2 q0 q1 CU KT
        go_wp2_with fail
        refine (PK.out w2 (u.length : Int) _ C2.out (by omega) (by unfold InR; omega)).mono ?_
        rintro e w4 ⟨q, rfl, q0, q1, -, c4, k4⟩
        obtain ⟨j, rfl⟩ : ∃ j : Nat, q = j := ⟨q.toNat, by omega⟩
        have hj : j < u.length := by have := q1 (by omega); omega
        obtain ⟨b, hb⟩ : ∃ b, Hid (u.getD j 0 = b) := ⟨_, rfl⟩
        have hix : ∀ w : World, (Instr.index 9 (.string (bs u)) (.int .i64 (j : Int))).run Tryz.prog w = .ok (.int .u8 (b.toNat : Int)) w := fun w => by rw [← hb.out]; exact run_at u j hj w
        have hcv := run_byte1 (w4.alloc (.cells #[.int .u8 (b.toNat : Int)] 5)) w4.heap.size (b.toNat : Int) (by simp)
        rw [show UInt8.ofNat ((b.toNat : Int)).toNat = b by simp] at hcv
        have C4 := hide (c4.ext (Ext.alloc w4 (.cells #[.int .u8 (b.toNat : Int)] 5)))
        have K4 := hide ((K2.out.trans k4).trans (TchF.of_ext (Ext.alloc w4 (.cells #[.int .u8 (b.toNat : Int)] 5))))
        clear c4 k4 q0 q1 C2 K2 hb hj
        go_wp2_with fail
        refine (PK.out _ 3 _ C4.out (by omega) (by unfold InR; omega)).mono ?_
        rintro e w3 ⟨p, rfl, p0, p1, -, c3, k3⟩
        have p2 := p1 (by omega)
        have C3 := hide c3
        have K3 := hide (K4.out.trans k3)
        have RA : Hid (i ≤ y.length) := by show _ ≤ _; omega
        clear c3 k3 p1 C4 K4 hcv hix
        rcases (show p = 0 ∨ p = 1 ∨ p = 2 by omega) with rfl | rfl | rfl
        · obtain ⟨Y, hY⟩ : ∃ Y, Hid (y.take i ++ [b] ++ y.drop i = Y) := ⟨_, rfl⟩
          have LY : Hid (Y.length ≤ y.length + 1) := by show _ ≤ _; rw [← hY.out]; simp only [List.length_append, List.length_take, List.length_drop, List.length_cons, List.length_nil]; omega
          have g1 : ∀ w : World, _ := fun w => slice_toX y i RA.out w
          have g2 : ∀ w : World, _ := fun w => bs_add (P := Tryz.prog) w (y.take i) [b] (by simp only [List.length_take, List.length_cons, List.length_nil]; omega)
          have g3 : ∀ w : World, _ := fun w => slice_fromX y i RA.out w
          have g4 : ∀ w : World, _ := fun w => bs_add (P := Tryz.prog) w (y.take i ++ [b]) (y.drop i) (by simp only [List.length_append, List.length_take, List.length_drop, List.length_cons, List.length_nil]; omega)
          rw [hY.out] at g4
          clear RA hY
          go_wp2
          go_quiet (fail)
          go_wp2
          go_roundw
          case rel => exact ⟨k - 1, Y, by go_num, rfl, by omega, by have := LY.out; omega, (C3.out.ext (Ext.drewN _ _)).more (by omega), K3.out.trans (TchF.of_ext (Ext.drewN _ _))⟩
          case measure => simp [intOf]; omega
        · obtain ⟨Y, hY⟩ : ∃ Y, Hid (y.take i ++ [b] ++ y.drop (i + 1) = Y) := ⟨_, rfl⟩
          have LY : Hid (Y.length ≤ y.length + 1) := by show _ ≤ _; rw [← hY.out]; simp only [List.length_append, List.length_take, List.length_drop, List.length_cons, List.length_nil]; omega
          have g1 : ∀ w : World, _ := fun w => slice_toX y i RA.out w
          have g2 : ∀ w : World, _ := fun w => bs_add (P := Tryz.prog) w (y.take i) [b] (by simp only [List.length_take, List.length_cons, List.length_nil]; omega)
          have g3 : ∀ w : World, _ := fun w => slice_fromX y (i + 1) (by omega) w
          have g4 : ∀ w : World, _ := fun w => bs_add (P := Tryz.prog) w (y.take i ++ [b]) (y.drop (i + 1)) (by simp only [List.length_append, List.length_take, List.length_drop, List.length_cons, List.length_nil]; omega)
          rw [hY.out] at g4
          simp only [Int.natCast_add, Int.cast_ofNat_Int] at g3
          clear RA hY
          go_wp2
          go_quiet (fail)
          go_wp2
          go_roundw
          case rel => exact ⟨k - 1, Y, by go_num, rfl, by omega, by have := LY.out; omega, (C3.out.ext (Ext.drewN _ _)).more (by omega), K3.out.trans (TchF.of_ext (Ext.drewN _ _))⟩
          case measure => simp [intOf]; omega
        · obtain ⟨Y, hY⟩ : ∃ Y, Hid (y.take i ++ y.drop (i + 1) = Y) := ⟨_, rfl⟩
          have LY : Hid (Y.length ≤ y.length + 1) := by show _ ≤ _; rw [← hY.out]; simp only [List.length_append, List.length_take, List.length_drop, List.length_cons, List.length_nil]; omega
          have g1 : ∀ w : World, _ := fun w => slice_toX y i RA.out w
          have g3 : ∀ w : World, _ := fun w => slice_fromX y (i + 1) (by omega) w
          have g4 : ∀ w : World, _ := fun w => bs_add (P := Tryz.prog) w (y.take i) (y.drop (i + 1)) (by simp only [List.length_append, List.length_take, List.length_drop, List.length_cons, List.length_nil]; omega)
          rw [hY.out] at g4
          simp only [Int.natCast_add, Int.cast_ofNat_Int] at g3
          clear RA hY
          go_wp2
          go_quiet (fail)
          go_wp2
          go_roundw
          case rel => exact ⟨k - 1, Y, by go_num, rfl, by omega, by have := LY.out; omega, (C3.out.ext (Ext.drewN _ _)).more (by omega), K3.out.trans (TchF.of_ext (Ext.drewN _ _))⟩
          case measure => simp [intOf]; omega
      · have y1 : ¬ (0 : Int) < (y.length : Int) := by omega
        go_wp2
        go_ret
        exact ⟨y, rfl, by omega, KT.out⟩
    · have k1 : ¬ (0 : Int) < (k : Int) := by omega
      go_wp2
      go_ret
      exact ⟨y, rfl, by omega, KT.out⟩

set_option maxRecDepth 100000 in
set_option maxHeartbeats 4000000 in
theorem s.DrawParseMarks_m (w : World) (A : Option Addr) (n c : Nat) (h : ArgB w A n c) :
    Calls Tryz.prog 14 #[.slice A n c] w fun e w' => ∃ y : List UInt8, e = .returned (.string (bs y)) ∧ y.length ≤ 1000000 ∧ Ext w w' := by
  obtain ⟨W0, hW0⟩ : ∃ W0, Hid (W0 = w.alloc (.cells #[.slice A n c, .int .i64 0, .int .u64 0] 65)) := ⟨_, rfl⟩
  obtain ⟨g, hg⟩ : ∃ g, Hid (g = w.heap.size) := ⟨_, rfl⟩
  have CU : Hid (Cur W0 g 0) := by rw [hW0.out, hg.out]; exact Cur.new h
  have X : Hid (Ext w W0) := by rw [hW0.out]; exact Ext.alloc w _
  have gl : w.heap.size ≤ g := by rw [hg.out]; exact Nat.le_refl _
  clear h
  go_enter Tryz.func14, Tryz.ntmps14
  go_wp2_with fail
  rw [← hW0.out, ← hg.out]
  clear hW0 hg
  refine (cu.howMany_m W0 g _ CU.out (by omega)).mono ?_
  rintro e w1 ⟨m1, rfl, b1, c1, k1⟩
  replace X := hide (TchF.ext_of X.out k1 gl)
  replace CU := hide c1
  clear c1 k1
  go_wp2_with fail
  refine (cu.marks_b w1 g _ m1 CU.out (by omega) (by omega)).mono ?_
  rintro e w2 ⟨v, d, J, rfl, hf, d1, d2, J3, J9, r1, r2, c2, k2⟩
  replace X := hide (TchF.ext_of X.out k2 gl)
  replace CU := hide c2
  have q3 : ∀ r ∈ d.1, r.length ≤ 9 ∧ ∀ x ∈ r, x.natAbs ≤ 1000 := fun r hr => ⟨by have := (r1 r hr).1; omega, (r1 r hr).2⟩
  have q4 : ∀ r ∈ d.2, r.length ≤ 9 ∧ ∀ x ∈ r, x.natAbs ≤ 1000 := fun r hr => ⟨by have := (r2 r hr).1; omega, (r2 r hr).2⟩
  have MT := hide (s.mkText_g w2 v d (kM.fr_rd hf) (by omega) d2 q3 q4)
  have ML := marksT_len (d := d) (by omega) d2 q3 q4
  obtain ⟨T, hT⟩ : ∃ T, Hid (marksT d = T) := ⟨_, rfl⟩
  rw [hT.out] at MT ML
  obtain ⟨A1, n1, e1, A2, n2, e2, rfl⟩ := kM.shape (kM.fr_rd hf)
  clear c2 k2 hf d1 d2 r1 r2 q3 q4 hT
  go_wp2_with fail
  refine MT.out.mono ?_
  rintro e w3 ⟨rfl, x3⟩
  replace X := hide (X.out.trans x3)
  replace CU := hide (CU.out.ext x3)
  clear x3 MT
  go_wp2_with fail
  refine (cu.one_m w3 g _ 3 CU.out (by omega) (by unfold InR; omega)).mono ?_
  rintro e w4 ⟨o, rfl, c4, k4⟩
  replace X := hide (TchF.ext_of X.out k4 gl)
  replace CU := hide c4
  clear c4 k4
  cases o
  · go_wp2
    go_ret
    exact ⟨T, rfl, by omega, X.out⟩
  · have SP := hide (cu.spoilt_m w4 g _ T [45, 48, 50, 53, 32, 103, 99, 10] CU.out (by omega) (by omega) (by decide) (by decide))
    have e0 : (⟨#[45, 48, 50, 53, 32, 103, 99, 10]⟩ : ByteArray) = bs [45, 48, 50, 53, 32, 103, 99, 10] := rfl
    go_wp2_with fail
    refine SP.out.mono ?_
    rintro e w5 ⟨y, rfl, hy, k5⟩
    replace X := hide (TchF.ext_of X.out k5 gl)
    clear k5 SP
    go_wp2
    go_ret
    exact ⟨y, rfl, by omega, X.out⟩
end Go.Proofs.YtnokilofcdbjhaaGreatDoor
