/- The walk of FnExactBestReplace. -/
import Derived.Test.YteachljlnekkgaaGreatZR
import Derived.Deep.RegionHeld3
namespace Go.Proofs.YteachljlnekkgaaGreat
open Go.RowKit Go.Sort
set_option linter.unusedVariables false
set_option maxHeartbeats 1600000 in
set_option maxRecDepth 100000 in
theorem FnExactBestReplace_walk (v0 : Value) (z0 : CoD) (v1 : Value) (z1 : (List ItD)) (w : World) (h0 : kC.rd w v0 z0) (h1 : kIt.rd w v1 z1) :
    Calls Tryz.prog 4 #[v0, v1] w fun e w' => e = .returned (.bool true) ∧ Ext w w' := by
  obtain ⟨Ab0, nb0, cb0, Ab0', nb0', cb0', rb0, tb0, pb0, fb0, rfl⟩ := kC.shape h0
  have R0 := hide h0; clear h0
  have R1 := hide h1; clear h1
  obtain ⟨W0, hW0⟩ : ∃ W0, Hid (W0 = (w.alloc (.cells #[.slice Ab0 nb0 cb0, .slice Ab0' nb0' cb0', .int .i64 rb0, .int .i64 tb0, .int .i64 pb0, .int .i64 fb0] 25))) := ⟨_, rfl⟩
  have X : Hid (Ext w W0) := by rw [hW0.out]; exact Ext.alloc w _
  have Pb0 : Hid (Blk W0 (w.heap.size) #[.slice Ab0 nb0 cb0, .slice Ab0' nb0' cb0', .int .i64 rb0, .int .i64 tb0, .int .i64 pb0, .int .i64 fb0] 25) := by rw [hW0.out]; exact Blk.new rfl _ _
  have szb0 := Pb0.out.lt
  have RR0 := R0
  replace R0 := hide (kC.rd_ext R0.out X.out)
  have RR1 := R1
  replace R1 := hide (kIt.rd_ext R1.out X.out)
  go_enter Tryz.func4, Tryz.ntmps4
  go_wp2_with fail
  rw [← hW0.out]; clear hW0
  refine (kC.sz _ _ z0 R0.out).mono ?_
  rintro e wz0 ⟨rfl, x1⟩
  have szz0 := x1.size
  replace R0 := hide (kC.rd_ext R0.out x1)
  replace R1 := hide (kIt.rd_ext R1.out x1)
  replace X := hide (X.out.trans x1)
  replace Pb0 := hide (Pb0.out.ext x1)
  clear x1
  by_cases big : 1048576 < kC.wt z0
  · rw [if_neg (by omega)]
    go_wp2_with fail
    go_ret
    exact ⟨rfl, X.out⟩
  have ok0 : kC.ok z0 := kC.ok_of (by omega)
  obtain ⟨m0, hm, hm00⟩ : ∃ m : Nat, Hid ((1048576 : Int) - (kC.wt z0 : Nat) = (m : Int)) ∧ m ≤ 1048576 := ⟨1048576 - kC.wt z0, by show _ = _; omega, by omega⟩
  rw [if_pos (by omega), hm.out]
  clear big hm
  have qb0 := Pb0.out.cell
  go_wp2_with fail
  clear qb0
  refine (kIt.szL _ _ z1 m0 R1.out (by omega) (by omega)).mono ?_
  rintro e wz ⟨rfl, x1⟩
  have szz1 := x1.size
  replace R0 := hide (kC.rd_ext R0.out x1)
  replace R1 := hide (kIt.rd_ext R1.out x1)
  replace X := hide (X.out.trans x1)
  replace Pb0 := hide (Pb0.out.ext x1)
  clear x1
  by_cases big : m0 < kIt.wt z1
  · rw [if_neg (by omega)]
    go_wp2_with fail
    go_ret
    exact ⟨rfl, X.out⟩
  have ok1 : kIt.ok z1 := kIt.ok_of (by omega)
  obtain ⟨m1, hm, hm10⟩ : ∃ m : Nat, Hid ((m0 : Int) - (kIt.wt z1 : Nat) = (m : Int)) ∧ m ≤ 1048576 := ⟨m0 - kIt.wt z1, by show _ = _; omega, by omega⟩
  rw [if_pos (by omega), hm.out]
  clear big hm
  have qb0 := Pb0.out.cell
  go_wp2_with fail
  clear qb0
  refine (kC.to _ _ z0 R0.out ok0).mono ?_
  rintro e w1 ⟨u1, rfl, o1, x1⟩
  obtain ⟨Aa1, na1, ca1, Aa1', na1', ca1', ra1, ta1, pa1, fa1, rfl⟩ := kC.shape (kC.fr_rd o1)
  have sz1 := x1.size
  replace R0 := hide (kC.rd_ext R0.out x1)
  replace R1 := hide (kIt.rd_ext R1.out x1)
  replace Pb0 := hide (Pb0.out.ext x1)
  replace X := hide (X.out.trans x1)
  have T1 := hide o1; clear o1 x1
  have qb0 := Pb0.out.cell
  go_wp2_with fail
  clear qb0
  refine (kIt.to _ _ z1 R1.out ok1).mono ?_
  rintro e w2 ⟨u2, rfl, o1, x1⟩
  have sz2 := x1.size
  replace T1 := hide (kC.fr_ext T1.out x1)
  replace R0 := hide (kC.rd_ext R0.out x1)
  replace R1 := hide (kIt.rd_ext R1.out x1)
  replace Pb0 := hide (Pb0.out.ext x1)
  replace X := hide (X.out.trans x1)
  have T2 := hide o1; clear o1 x1
  have qb0 := Pb0.out.cell
  go_wp2_with fail
  clear qb0
  refine (s.BestReplace_law _ _ _ z0 z1 (kC.fr_rd T1.out) ok0 (kIt.fr_rd T2.out) ok1 ).mono ?_
  rintro e w3 ⟨rfl, x1⟩
  have sz3 := x1.size
  replace R0 := hide (kC.rd_ext R0.out x1)
  replace R1 := hide (kIt.rd_ext R1.out x1)
  replace Pb0 := hide (Pb0.out.ext x1)
  replace X := hide (X.out.trans x1)
  clear x1
  have qb0 := Pb0.out.cell
  go_wp2_with fail
  clear qb0
  refine (kC.to _ _ z0 R0.out ok0).mono ?_
  rintro e w4 ⟨u4, rfl, o1, x1⟩
  obtain ⟨Aa4, na4, ca4, Aa4', na4', ca4', ra4, ta4, pa4, fa4, rfl⟩ := kC.shape (kC.fr_rd o1)
  have sz4 := x1.size
  replace R0 := hide (kC.rd_ext R0.out x1)
  replace R1 := hide (kIt.rd_ext R1.out x1)
  replace Pb0 := hide (Pb0.out.ext x1)
  replace X := hide (X.out.trans x1)
  have T4 := hide o1; clear o1 x1
  have qb0 := Pb0.out.cell
  go_wp2_with fail
  clear qb0
  obtain ⟨Wa4, hWa4⟩ : ∃ W', Hid (W' = w4.alloc (.cells #[.slice Aa4 na4 ca4, .slice Aa4' na4' ca4', .int .i64 ra4, .int .i64 ta4, .int .i64 pa4, .int .i64 fa4] 33)) := ⟨_, rfl⟩
  have x1 : Ext w4 Wa4 := by rw [hWa4.out]; exact Ext.alloc _ _
  replace T4 := hide (kC.fr_ext T4.out x1)
  replace R0 := hide (kC.rd_ext R0.out x1)
  replace R1 := hide (kIt.rd_ext R1.out x1)
  replace Pb0 := hide (Pb0.out.ext x1)
  replace X := hide (X.out.trans x1)
  have Pa4 : Hid (Blk Wa4 w4.heap.size #[.slice Aa4 na4 ca4, .slice Aa4' na4' ca4', .int .i64 ra4, .int .i64 ta4, .int .i64 pa4, .int .i64 fa4] 33) := by rw [hWa4.out]; exact Blk.new rfl _ _
  have szPa4 := Pa4.out.lt
  rw [← hWa4.out]; clear hWa4 x1
  refine (kIt.to _ _ z1 R1.out ok1).mono ?_
  rintro e w5 ⟨u5, rfl, o1, x1⟩
  have sz5 := x1.size
  replace T4 := hide (kC.fr_ext T4.out x1)
  replace R0 := hide (kC.rd_ext R0.out x1)
  replace R1 := hide (kIt.rd_ext R1.out x1)
  replace Pb0 := hide (Pb0.out.ext x1)
  replace Pa4 := hide (Pa4.out.ext x1)
  replace X := hide (X.out.trans x1)
  have T5 := hide o1; clear o1 x1
  have qb0 := Pb0.out.cell
  have qa4 := Pa4.out.cell
  go_wp2_with fail
  clear qb0 qa4
  refine (i.BestReplace_law _ _ _ z0 z1 (kC.fr_rd T4.out) ok0 (kIt.fr_rd T5.out) ok1 ).mono ?_
  rintro e w6 ⟨rfl, x1⟩
  have sz6 := x1.size
  replace T4 := hide (kC.fr_ext T4.out x1)
  replace T5 := hide (kIt.fr_ext T5.out x1)
  replace R0 := hide (kC.rd_ext R0.out x1)
  replace R1 := hide (kIt.rd_ext R1.out x1)
  replace Pb0 := hide (Pb0.out.ext x1)
  replace Pa4 := hide (Pa4.out.ext x1)
  replace X := hide (X.out.trans x1)
  clear x1
  have qb0 := Pb0.out.cell
  have qa4 := Pa4.out.cell
  go_wp2_with fail
  clear qb0 qa4
  go_region_held3 (fun w' => (∀ i, w'.cell? ⟨w4.heap.size, i, none⟩ = #[Value.slice Aa4 na4 ca4, .slice Aa4' na4' ca4', .int .i64 ra4, .int .i64 ta4, .int .i64 pa4, .int .i64 fa4][i]?) ∧ (∀ i, w'.cell? ⟨w.heap.size, i, none⟩ = #[Value.slice Ab0 nb0 cb0, .slice Ab0' nb0' cb0', .int .i64 rb0, .int .i64 tb0, .int .i64 pb0, .int .i64 fb0][i]?)) (first | exact ⟨(Pa4.out.ext Y8.out).cell, (Pb0.out.ext Y8.out).cell⟩ | exact ⟨(Pa4.out.ext Y7.out).cell, (Pb0.out.ext Y7.out).cell⟩ | exact ⟨(Pa4.out.ext (Ext.drew w6)).cell, (Pb0.out.ext (Ext.drew w6)).cell⟩)
    (first | (go_at_call 9; refine (kC.to w6.drew _ z0 (kC.rd_ext R0.out (Ext.drew w6)) ok0).mono ?_; rintro e w7 ⟨u7, rfl, o1, x1⟩; have T7 := hide o1; have Y7 := hide ((Ext.drew w6).trans x1); clear o1 x1) | (go_at_call 12; refine (kC.eq w7 _ _ z0 (kC.fr_rd (kC.fr_ext T4.out Y7.out)) (kC.fr_rd T7.out) ok0).mono ?_; rintro e w8 ⟨rfl, x1⟩; have Y8 := hide (Y7.out.trans x1); clear x1))
  have sz8 := Y8.out.size
  replace T4 := hide (kC.fr_ext T4.out Y8.out)
  replace T5 := hide (kIt.fr_ext T5.out Y8.out)
  replace R0 := hide (kC.rd_ext R0.out Y8.out)
  replace R1 := hide (kIt.rd_ext R1.out Y8.out)
  replace Pb0 := hide (Pb0.out.ext Y8.out)
  replace Pa4 := hide (Pa4.out.ext Y8.out)
  replace X := hide (X.out.trans Y8.out)
  clear T7 Y7 Y8
  have qb0 := Pb0.out.cell
  have qa4 := Pa4.out.cell
  go_wp2_with fail
  clear qb0 qa4
  refine (kIt.to _ _ z1 R1.out ok1).mono ?_
  rintro e w9 ⟨u9, rfl, o1, x1⟩
  have sz9 := x1.size
  replace T4 := hide (kC.fr_ext T4.out x1)
  replace T5 := hide (kIt.fr_ext T5.out x1)
  replace R0 := hide (kC.rd_ext R0.out x1)
  replace R1 := hide (kIt.rd_ext R1.out x1)
  replace Pb0 := hide (Pb0.out.ext x1)
  replace Pa4 := hide (Pa4.out.ext x1)
  replace X := hide (X.out.trans x1)
  have T9 := hide o1; clear o1 x1
  have qb0 := Pb0.out.cell
  have qa4 := Pa4.out.cell
  go_wp2_with fail
  clear qb0 qa4
  refine (kIt.eq _ _ _ _ (kIt.fr_rd T5.out) (kIt.fr_rd T9.out) ok1).mono ?_
  rintro e w10 ⟨rfl, x1⟩
  have sz10 := x1.size
  clear T9
  replace T4 := hide (kC.fr_ext T4.out x1)
  replace T5 := hide (kIt.fr_ext T5.out x1)
  replace R0 := hide (kC.rd_ext R0.out x1)
  replace R1 := hide (kIt.rd_ext R1.out x1)
  replace Pb0 := hide (Pb0.out.ext x1)
  replace Pa4 := hide (Pa4.out.ext x1)
  replace X := hide (X.out.trans x1)
  clear x1
  have qb0 := Pb0.out.cell
  have qa4 := Pa4.out.cell
  go_wp2_with fail
  clear qb0 qa4
  go_ret
  exact ⟨rfl, X.out⟩

end Go.Proofs.YteachljlnekkgaaGreat
