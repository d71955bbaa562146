/- The walk of FnExactAreMarks. -/
import Derived.Test.YtifbokcenbchnaaML
namespace Go.Proofs.Ytifbokcenbchnaa
open Go.RowKit Go.Sort
set_option linter.unusedVariables false
set_option maxHeartbeats 1600000 in
set_option maxRecDepth 100000 in
theorem FnExactAreMarks_walk (v0 : Value) (z0 : MD) (z1 : Int) (w : World) (h0 : kM.rd w v0 z0) (h1 : InR z1) :
    Calls Try.prog 3 #[v0, .int .i64 z1] w fun e w' => e = .returned (.bool true) ∧ Ext w w' := by
  obtain ⟨A0, n0, c0, A0', n0', c0', rfl⟩ := kM.shape h0
  have R0 := hide h0; clear h0
  obtain ⟨W0, hW0⟩ : ∃ W0, Hid (W0 = w.alloc (.cells #[.slice A0 n0 c0, .slice A0' n0' c0'] 24)) := ⟨_, rfl⟩
  have X : Hid (Ext w W0) := by rw [hW0.out]; exact Ext.alloc w _
  have P0 : Hid (Blk W0 w.heap.size #[.slice A0 n0 c0, .slice A0' n0' c0'] 24) := by rw [hW0.out]; exact Blk.new rfl _ _
  replace R0 := hide (kM.rd_ext R0.out X.out)
  go_enter Try.func3, Try.ntmps3
  go_wp2_with fail
  rw [← hW0.out]
  clear hW0
  refine (kM.sz _ _ z0 R0.out).mono ?_
  rintro e w1 ⟨rfl, x1⟩
  replace R0 := hide (kM.rd_ext R0.out x1)
  replace X := hide (X.out.trans x1)
  replace P0 := hide (P0.out.ext x1)
  clear x1
  by_cases big : 1048576 < kdM.wt z0
  · rw [if_neg (by omega)]
    go_wp2_with fail
    go_ret
    exact ⟨rfl, X.out⟩
  have ok0 : kM.ok z0 := Nat.le_of_not_lt big
  obtain ⟨m, hm, hm0⟩ : ∃ m : Nat, Hid ((1048576 : Int) - (kdM.wt z0 : Nat) = (m : Int)) ∧ m ≤ 1048576 := ⟨1048576 - kdM.wt z0, by show _ = _; omega, by omega⟩
  rw [if_pos (by omega), hm.out]
  clear big hm
  have q0 := P0.out.cell
  go_wp2_with fail
  refine (kM.to _ _ z0 R0.out ok0).mono ?_
  rintro e w2 ⟨u2, rfl, o1, x1⟩
  have sz2 := x1.size
  replace R0 := hide (kM.rd_ext R0.out x1)
  replace X := hide (X.out.trans x1)
  replace P0 := hide (P0.out.ext x1)
  have T2 := hide o1; clear o1 x1 q0
  go_wp2_with fail
  refine (s.AreMarks_law _ _ z0 z1 (kM.fr_rd T2.out) ok0 h1).mono ?_
  rintro e w3 ⟨rfl, x1⟩
  have sz3 := x1.size
  replace R0 := hide (kM.rd_ext R0.out x1)
  replace X := hide (X.out.trans x1)
  replace P0 := hide (P0.out.ext x1)
  clear x1 T2
  have q0 := P0.out.cell
  go_wp2_with fail
  refine (kM.to _ _ z0 R0.out ok0).mono ?_
  rintro e w4 ⟨u4, rfl, o1, x1⟩
  obtain ⟨A4, n4, c4, A4', n4', c4', rfl⟩ := kM.shape (kM.fr_rd o1)
  have sz4 := x1.size
  replace R0 := hide (kM.rd_ext R0.out x1)
  replace X := hide (X.out.trans x1)
  replace P0 := hide (P0.out.ext x1)
  have T4 := hide o1; clear o1 x1 q0
  go_wp2_with fail
  obtain ⟨W4, hW4⟩ : ∃ W4, Hid (W4 = w4.alloc (.cells #[.slice A4 n4 c4, .slice A4' n4' c4'] 27)) := ⟨_, rfl⟩
  have x1 : Ext w4 W4 := by rw [hW4.out]; exact Ext.alloc w4 _
  have P4 : Hid (Blk W4 w4.heap.size #[.slice A4 n4 c4, .slice A4' n4' c4'] 27) := by rw [hW4.out]; exact Blk.new rfl _ _
  rw [← hW4.out]; clear hW4
  have sz4' := x1.size
  replace R0 := hide (kM.rd_ext R0.out x1)
  replace T4 := hide (kM.fr_ext T4.out x1)
  replace X := hide (X.out.trans x1)
  replace P0 := hide (P0.out.ext x1)
  clear x1
  refine (i.AreMarks_law _ _ z0 z1 (kM.fr_rd T4.out) ok0 h1).mono ?_
  rintro e w5 ⟨rfl, x1⟩
  have sz5 := x1.size
  replace R0 := hide (kM.rd_ext R0.out x1)
  replace T4 := hide (kM.fr_ext T4.out x1)
  replace X := hide (X.out.trans x1)
  replace P0 := hide (P0.out.ext x1)
  replace P4 := hide (P4.out.ext x1)
  clear x1
  have q0 := P0.out.cell
  have q4 := P4.out.cell
  go_wp2_with fail
  go_region_law (first
    | (go_simp; go_at_call 17; refine (kM.to w5.drew _ z0 (kM.rd_ext R0.out (Ext.drew w5)) ok0).mono ?_; rintro e w6 ⟨u6, rfl, o1, x1⟩; have T6 := hide o1; have X6 := hide ((Ext.drew w5).trans x1); have q6 := (P4.out.ext X6.out).cell; clear o1 x1)
    | (go_simp; go_at_call 19; refine (kM.eq w6 _ _ z0 (kM.fr_rd (kM.fr_ext T4.out X6.out)) (kM.fr_rd T6.out) ok0).mono ?_; rintro e w7 ⟨rfl, x1⟩; have X7 := hide (X6.out.trans x1); clear x1))
  all_goals
    go_wp2
    go_ret
    exact ⟨rfl, X.out.trans X7.out⟩
end Go.Proofs.Ytifbokcenbchnaa
