/- The walk of FnExactBestSingles. -/
import Derived.Test.YtcnpbaldnhfebaaBH
import Derived.Deep.RegionHeld3
namespace Go.Proofs.Ytcnpbaldnhfebaa
open Go.RowKit Go.Sort
set_option linter.unusedVariables false
set_option maxHeartbeats 1600000 in
set_option maxRecDepth 100000 in
theorem FnExactBestSingles_walk (v0 : Value) (z0 : CoD) (z1 : Int) (w : World) (h0 : kC.rd w v0 z0) (h1 : InR z1) :
    Calls Try.prog 4 #[v0, .int .i64 z1] w fun e w' => e = .returned (.bool true) ∧ Ext w w' := by
  obtain ⟨Ab0, nb0, cb0, Ab0', nb0', cb0', rb0, tb0, pb0, fb0, rfl⟩ := kC.shape h0
  have R0 := hide h0; clear h0
  obtain ⟨W0, hW0⟩ : ∃ W0, Hid (W0 = (w.alloc (.cells #[.slice Ab0 nb0 cb0, .slice Ab0' nb0' cb0', .int .i64 rb0, .int .i64 tb0, .int .i64 pb0, .int .i64 fb0] 25))) := ⟨_, rfl⟩
  have X : Hid (Ext w W0) := by rw [hW0.out]; exact Ext.alloc w _
  have Pb0 : Hid (Blk W0 (w.heap.size) #[.slice Ab0 nb0 cb0, .slice Ab0' nb0' cb0', .int .i64 rb0, .int .i64 tb0, .int .i64 pb0, .int .i64 fb0] 25) := by rw [hW0.out]; exact Blk.new rfl _ _
  have szb0 := Pb0.out.lt
  have RR0 := R0
  replace R0 := hide (kC.rd_ext R0.out X.out)
  go_enter Try.func4, Try.ntmps4
  go_wp2_with fail
  rw [← hW0.out]; clear hW0
  refine (kC.sz _ _ z0 R0.out).mono ?_
  rintro e wz ⟨rfl, x1⟩
  have szz0 := x1.size
  replace R0 := hide (kC.rd_ext R0.out x1)
  replace X := hide (X.out.trans x1)
  replace Pb0 := hide (Pb0.out.ext x1)
  clear x1
  by_cases big : 1048576 < kC.wt z0
  · rw [if_neg (by omega)]
    go_wp2_with fail
    go_ret
    exact ⟨rfl, X.out⟩
  have ok0 : kC.ok z0 := kC.ok_of (by omega)
  obtain ⟨m0, hm, hm00⟩ : ∃ m : Nat, Hid ((1048576 : Int) - (kC.wt z0 : Nat) = (m : Int)) ∧ m ≤ 1048576 := ⟨1048576 - kC.wt z0, by show _ = _; omega, by omega⟩
  rw [if_pos (by omega), hm.out]
  clear big hm
  have qb0 := Pb0.out.cell
  go_wp2_with fail
  clear qb0
  refine (kC.to _ _ z0 R0.out ok0).mono ?_
  rintro e w1 ⟨u1, rfl, o1, x1⟩
  obtain ⟨Aa1, na1, ca1, Aa1', na1', ca1', ra1, ta1, pa1, fa1, rfl⟩ := kC.shape (kC.fr_rd o1)
  have sz1 := x1.size
  replace R0 := hide (kC.rd_ext R0.out x1)
  replace Pb0 := hide (Pb0.out.ext x1)
  replace X := hide (X.out.trans x1)
  have T1 := hide o1; clear o1 x1
  have qb0 := Pb0.out.cell
  go_wp2_with fail
  clear qb0
  refine (s.BestSingles_law _ _ z0 z1 (kC.fr_rd T1.out) ok0 h1).mono ?_
  rintro e w2 ⟨v2_0, rfl, o0, q0, x1⟩
  have sz2 := x1.size
  replace R0 := hide (kC.rd_ext R0.out x1)
  replace Pb0 := hide (Pb0.out.ext x1)
  replace X := hide (X.out.trans x1)
  have G2_0 := hide o0; have K2_0 := hide q0; clear o0 q0
  have kc2_0 := kIt.ok_cnt K2_0.out
  clear x1
  have qb0 := Pb0.out.cell
  go_wp2_with fail
  clear qb0
  refine (kC.to _ _ z0 R0.out ok0).mono ?_
  rintro e w3 ⟨u3, rfl, o1, x1⟩
  obtain ⟨Aa3, na3, ca3, Aa3', na3', ca3', ra3, ta3, pa3, fa3, rfl⟩ := kC.shape (kC.fr_rd o1)
  have sz3 := x1.size
  replace G2_0 := hide (kIt.fr_ext G2_0.out x1)
  replace R0 := hide (kC.rd_ext R0.out x1)
  replace Pb0 := hide (Pb0.out.ext x1)
  replace X := hide (X.out.trans x1)
  have T3 := hide o1; clear o1 x1
  have qb0 := Pb0.out.cell
  go_wp2_with fail
  clear qb0
  obtain ⟨Wa3, hWa3⟩ : ∃ W', Hid (W' = w3.alloc (.cells #[.slice Aa3 na3 ca3, .slice Aa3' na3' ca3', .int .i64 ra3, .int .i64 ta3, .int .i64 pa3, .int .i64 fa3] 31)) := ⟨_, rfl⟩
  have x1 : Ext w3 Wa3 := by rw [hWa3.out]; exact Ext.alloc _ _
  replace G2_0 := hide (kIt.fr_ext G2_0.out x1)
  replace T3 := hide (kC.fr_ext T3.out x1)
  replace R0 := hide (kC.rd_ext R0.out x1)
  replace Pb0 := hide (Pb0.out.ext x1)
  replace X := hide (X.out.trans x1)
  have Pa3 : Hid (Blk Wa3 w3.heap.size #[.slice Aa3 na3 ca3, .slice Aa3' na3' ca3', .int .i64 ra3, .int .i64 ta3, .int .i64 pa3, .int .i64 fa3] 31) := by rw [hWa3.out]; exact Blk.new rfl _ _
  have szPa3 := Pa3.out.lt
  rw [← hWa3.out]; clear hWa3 x1
  refine (i.BestSingles_law _ _ z0 z1 (kC.fr_rd T3.out) ok0 h1).mono ?_
  rintro e w4 ⟨v4_0, rfl, o0, q0, x1⟩
  have sz4 := x1.size
  replace G2_0 := hide (kIt.fr_ext G2_0.out x1)
  replace T3 := hide (kC.fr_ext T3.out x1)
  replace R0 := hide (kC.rd_ext R0.out x1)
  replace Pb0 := hide (Pb0.out.ext x1)
  replace Pa3 := hide (Pa3.out.ext x1)
  replace X := hide (X.out.trans x1)
  have G4_0 := hide o0; have K4_0 := hide q0; clear o0 q0
  have kc4_0 := kIt.ok_cnt K4_0.out
  clear x1
  have qb0 := Pb0.out.cell
  have qa3 := Pa3.out.cell
  go_wp2_with fail
  clear qb0 qa3
  refine (kIt.eq _ _ _ _ (kIt.fr_rd G4_0.out) (kIt.fr_rd G2_0.out) K2_0.out).mono ?_
  rintro e w5 ⟨rfl, x1⟩
  have sz5 := x1.size
  replace G2_0 := hide (kIt.fr_ext G2_0.out x1)
  replace T3 := hide (kC.fr_ext T3.out x1)
  replace G4_0 := hide (kIt.fr_ext G4_0.out x1)
  replace R0 := hide (kC.rd_ext R0.out x1)
  replace Pb0 := hide (Pb0.out.ext x1)
  replace Pa3 := hide (Pa3.out.ext x1)
  replace X := hide (X.out.trans x1)
  clear x1
  have qb0 := Pb0.out.cell
  have qa3 := Pa3.out.cell
  go_wp2_with fail
  clear qb0 qa3
  go_region_held3 (fun w' => (∀ i, w'.cell? ⟨w3.heap.size, i, none⟩ = #[Value.slice Aa3 na3 ca3, .slice Aa3' na3' ca3', .int .i64 ra3, .int .i64 ta3, .int .i64 pa3, .int .i64 fa3][i]?) ∧ (∀ i, w'.cell? ⟨w.heap.size, i, none⟩ = #[Value.slice Ab0 nb0 cb0, .slice Ab0' nb0' cb0', .int .i64 rb0, .int .i64 tb0, .int .i64 pb0, .int .i64 fb0][i]?)) (first | exact ⟨(Pa3.out.ext Y7.out).cell, (Pb0.out.ext Y7.out).cell⟩ | exact ⟨(Pa3.out.ext Y6.out).cell, (Pb0.out.ext Y6.out).cell⟩ | exact ⟨(Pa3.out.ext (Ext.drew w5)).cell, (Pb0.out.ext (Ext.drew w5)).cell⟩)
    (first | (go_at_call 8; refine (kC.to w5.drew _ z0 (kC.rd_ext R0.out (Ext.drew w5)) ok0).mono ?_; rintro e w6 ⟨u6, rfl, o1, x1⟩; have T6 := hide o1; have Y6 := hide ((Ext.drew w5).trans x1); clear o1 x1) | (go_at_call 11; refine (kC.eq w6 _ _ z0 (kC.fr_rd (kC.fr_ext T3.out Y6.out)) (kC.fr_rd T6.out) ok0).mono ?_; rintro e w7 ⟨rfl, x1⟩; have Y7 := hide (Y6.out.trans x1); clear x1))
  have sz7 := Y7.out.size
  replace G2_0 := hide (kIt.fr_ext G2_0.out Y7.out)
  replace T3 := hide (kC.fr_ext T3.out Y7.out)
  replace G4_0 := hide (kIt.fr_ext G4_0.out Y7.out)
  replace R0 := hide (kC.rd_ext R0.out Y7.out)
  replace Pb0 := hide (Pb0.out.ext Y7.out)
  replace Pa3 := hide (Pa3.out.ext Y7.out)
  replace X := hide (X.out.trans Y7.out)
  clear T6 Y6 Y7
  have qb0 := Pb0.out.cell
  have qa3 := Pa3.out.cell
  go_wp2_with fail
  clear qb0 qa3
  have kx8 := kC.ok_cnt ok0
  refine (kC.mark _ _ _ _ z0 _ T3.out ok0 (by omega) (by omega)).mono ?_
  rintro e w8 ⟨rfl, o1, t1⟩
  have sz8 := t1.size
  replace G2_0 := hide (kIt.fr_tch G2_0.out t1 (by omega))
  replace G4_0 := hide (kIt.fr_tch G4_0.out t1 (by omega))
  replace Pb0 := hide (Pb0.out.tch t1 (by omega))
  replace Pa3 := hide (Pa3.out.tch t1 (by omega))
  replace R0 := hide (kC.rd_ext RR0.out (X.out.tch t1 (by omega)))
  replace X := hide (X.out.tch t1 (by omega))
  have T3m := hide o1; clear o1 t1 T3
  have qb0 := Pb0.out.cell
  have qa3 := Pa3.out.cell
  go_wp2_with fail
  clear qb0 qa3
  refine (kIt.eq _ _ _ _ (kIt.fr_rd G4_0.out) (kIt.fr_rd G2_0.out) K2_0.out).mono ?_
  rintro e w9 ⟨rfl, x1⟩
  have sz9 := x1.size
  replace G2_0 := hide (kIt.fr_ext G2_0.out x1)
  replace T3m := hide (kC.fr_ext T3m.out x1)
  replace G4_0 := hide (kIt.fr_ext G4_0.out x1)
  replace R0 := hide (kC.rd_ext R0.out x1)
  replace Pb0 := hide (Pb0.out.ext x1)
  replace Pa3 := hide (Pa3.out.ext x1)
  replace X := hide (X.out.trans x1)
  clear x1
  have qb0 := Pb0.out.cell
  have qa3 := Pa3.out.cell
  go_wp2_with fail
  clear qb0 qa3
  have kx10 := kIt.ok_cnt K4_0.out
  refine (kIt.mark _ _ _ _ (sngF z0 z1).1 _ G4_0.out K4_0.out (by omega) (by omega)).mono ?_
  rintro e w10 ⟨rfl, o1, t1⟩
  have sz10 := t1.size
  replace G2_0 := hide (kIt.fr_tch G2_0.out t1 (by omega))
  replace T3m := hide (kC.fr_tch T3m.out t1 (by omega))
  replace Pb0 := hide (Pb0.out.tch t1 (by omega))
  replace Pa3 := hide (Pa3.out.tch t1 (by omega))
  replace R0 := hide (kC.rd_ext RR0.out (X.out.tch t1 (by omega)))
  replace X := hide (X.out.tch t1 (by omega))
  have G4_0m := hide o1; clear o1 t1 G4_0
  have qb0 := Pb0.out.cell
  have qa3 := Pa3.out.cell
  go_wp2_with fail
  clear qb0 qa3
  refine (kIt.held _ _ (sngF z0 z1).1 _ (kIt.fr_rd G4_0m.out) K4_0.out (by omega) (by omega)).mono ?_
  rintro e w11 ⟨rfl, x1⟩
  have sz11 := x1.size
  replace G2_0 := hide (kIt.fr_ext G2_0.out x1)
  replace T3m := hide (kC.fr_ext T3m.out x1)
  replace G4_0m := hide (kIt.fr_ext G4_0m.out x1)
  replace R0 := hide (kC.rd_ext R0.out x1)
  replace Pb0 := hide (Pb0.out.ext x1)
  replace Pa3 := hide (Pa3.out.ext x1)
  replace X := hide (X.out.trans x1)
  clear x1
  have qb0 := Pb0.out.cell
  have qa3 := Pa3.out.cell
  go_wp2_with fail
  clear qb0 qa3
  refine (kC.to _ _ z0 R0.out ok0).mono ?_
  rintro e w12 ⟨u12, rfl, o1, x1⟩
  obtain ⟨Aa12, na12, ca12, Aa12', na12', ca12', ra12, ta12, pa12, fa12, rfl⟩ := kC.shape (kC.fr_rd o1)
  have sz12 := x1.size
  replace G2_0 := hide (kIt.fr_ext G2_0.out x1)
  replace T3m := hide (kC.fr_ext T3m.out x1)
  replace G4_0m := hide (kIt.fr_ext G4_0m.out x1)
  replace R0 := hide (kC.rd_ext R0.out x1)
  replace Pb0 := hide (Pb0.out.ext x1)
  replace Pa3 := hide (Pa3.out.ext x1)
  replace X := hide (X.out.trans x1)
  have T12 := hide o1; clear o1 x1
  have qb0 := Pb0.out.cell
  have qa3 := Pa3.out.cell
  go_wp2_with fail
  clear qb0 qa3
  refine (i.BestSingles_law _ _ z0 z1 (kC.fr_rd T12.out) ok0 h1).mono ?_
  rintro e w13 ⟨v13_0, rfl, o0, q0, x1⟩
  have sz13 := x1.size
  replace G2_0 := hide (kIt.fr_ext G2_0.out x1)
  replace T3m := hide (kC.fr_ext T3m.out x1)
  replace G4_0m := hide (kIt.fr_ext G4_0m.out x1)
  replace R0 := hide (kC.rd_ext R0.out x1)
  replace Pb0 := hide (Pb0.out.ext x1)
  replace Pa3 := hide (Pa3.out.ext x1)
  replace X := hide (X.out.trans x1)
  have G13_0 := hide o0; have K13_0 := hide q0; clear o0 q0
  have kc13_0 := kIt.ok_cnt K13_0.out
  clear x1
  have qb0 := Pb0.out.cell
  have qa3 := Pa3.out.cell
  go_wp2_with fail
  clear qb0 qa3
  refine (kIt.eq _ _ _ _ (kIt.fr_rd G13_0.out) (kIt.fr_rd G2_0.out) K2_0.out).mono ?_
  rintro e w14 ⟨rfl, x1⟩
  have sz14 := x1.size
  replace G2_0 := hide (kIt.fr_ext G2_0.out x1)
  replace T3m := hide (kC.fr_ext T3m.out x1)
  replace G4_0m := hide (kIt.fr_ext G4_0m.out x1)
  replace G13_0 := hide (kIt.fr_ext G13_0.out x1)
  replace R0 := hide (kC.rd_ext R0.out x1)
  replace Pb0 := hide (Pb0.out.ext x1)
  replace Pa3 := hide (Pa3.out.ext x1)
  replace X := hide (X.out.trans x1)
  clear x1
  have qb0 := Pb0.out.cell
  have qa3 := Pa3.out.cell
  go_wp2_with fail
  clear qb0 qa3
  refine (kIt.held _ _ (sngF z0 z1).1 _ (kIt.fr_rd G4_0m.out) K4_0.out (by omega) (by omega)).mono ?_
  rintro e w15 ⟨rfl, x1⟩
  have sz15 := x1.size
  replace G2_0 := hide (kIt.fr_ext G2_0.out x1)
  replace T3m := hide (kC.fr_ext T3m.out x1)
  replace G4_0m := hide (kIt.fr_ext G4_0m.out x1)
  replace G13_0 := hide (kIt.fr_ext G13_0.out x1)
  replace R0 := hide (kC.rd_ext R0.out x1)
  replace Pb0 := hide (Pb0.out.ext x1)
  replace Pa3 := hide (Pa3.out.ext x1)
  replace X := hide (X.out.trans x1)
  clear x1
  have qb0 := Pb0.out.cell
  have qa3 := Pa3.out.cell
  go_wp2_with fail
  clear qb0 qa3
  go_ret
  exact ⟨rfl, X.out⟩

end Go.Proofs.Ytcnpbaldnhfebaa
