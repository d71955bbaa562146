/- The walk of FnExactColumnOf. -/
import Derived.Test.YtcmoedjcokkdcaaGreatRU
import Derived.Deep.RegionHeld3
namespace Go.Proofs.YtcmoedjcokkdcaaGreat
open Go.RowKit Go.Sort
set_option linter.unusedVariables false
set_option maxHeartbeats 1600000 in
set_option maxRecDepth 100000 in
theorem FnExactColumnOf_walk (v0 : Value) (z0 : CoD) (v1 : Value) (z1 : (List ItD)) (v2 : Value) (z2 : MD) (z3 : Int) (w : World) (h0 : kC.rd w v0 z0) (h1 : kIt.rd w v1 z1) (h2 : kM.rd w v2 z2) (h3 : InR z3) :
    Calls Tryz.prog 3 #[v0, v1, v2, .int .i64 z3] w fun e w' => e = .returned (.bool true) ∧ Ext w w' := by
  obtain ⟨Ab0, nb0, cb0, Ab0', nb0', cb0', rb0, tb0, pb0, fb0, rfl⟩ := kC.shape h0
  have R0 := hide h0; clear h0
  obtain ⟨Ab2, nb2, cb2, Ab2', nb2', cb2', rfl⟩ := kM.shape h2
  have R2 := hide h2; clear h2
  have R1 := hide h1; clear h1
  obtain ⟨W0, hW0⟩ : ∃ W0, Hid (W0 = ((w.alloc (.cells #[.slice Ab0 nb0 cb0, .slice Ab0' nb0' cb0', .int .i64 rb0, .int .i64 tb0, .int .i64 pb0, .int .i64 fb0] 25)).alloc (.cells #[.slice Ab2 nb2 cb2, .slice Ab2' nb2' cb2'] 29))) := ⟨_, rfl⟩
  have X : Hid (Ext w W0) := by rw [hW0.out]; exact (Ext.alloc w _).trans (Ext.alloc _ _)
  have Pb0 : Hid (Blk W0 (w.heap.size) #[.slice Ab0 nb0 cb0, .slice Ab0' nb0' cb0', .int .i64 rb0, .int .i64 tb0, .int .i64 pb0, .int .i64 fb0] 25) := by rw [hW0.out]; exact (Blk.new rfl _ _).alloc _
  have szb0 := Pb0.out.lt
  have Pb2 : Hid (Blk W0 (w.heap.size + 1) #[.slice Ab2 nb2 cb2, .slice Ab2' nb2' cb2'] 29) := by rw [hW0.out]; exact Blk.new (by simp) _ _
  have szb2 := Pb2.out.lt
  have RR0 := R0
  replace R0 := hide (kC.rd_ext R0.out X.out)
  have RR1 := R1
  replace R1 := hide (kIt.rd_ext R1.out X.out)
  have RR2 := R2
  replace R2 := hide (kM.rd_ext R2.out X.out)
  go_enter Tryz.func3, Tryz.ntmps3
  go_wp2_with fail
  rw [← hW0.out]; clear hW0
  refine (kC.sz _ _ z0 R0.out).mono ?_
  rintro e wz0 ⟨rfl, x1⟩
  have szz0 := x1.size
  replace R0 := hide (kC.rd_ext R0.out x1)
  replace R1 := hide (kIt.rd_ext R1.out x1)
  replace R2 := hide (kM.rd_ext R2.out x1)
  replace X := hide (X.out.trans x1)
  replace Pb0 := hide (Pb0.out.ext x1)
  replace Pb2 := hide (Pb2.out.ext x1)
  clear x1
  by_cases big : 1048576 < kC.wt z0
  · rw [if_neg (by omega)]
    go_wp2_with fail
    go_ret
    exact ⟨rfl, X.out⟩
  have ok0 : kC.ok z0 := kC.ok_of (by omega)
  obtain ⟨m0, hm, hm00⟩ : ∃ m : Nat, Hid ((1048576 : Int) - (kC.wt z0 : Nat) = (m : Int)) ∧ m ≤ 1048576 := ⟨1048576 - kC.wt z0, by show _ = _; omega, by omega⟩
  rw [if_pos (by omega), hm.out]
  clear big hm
  have qb0 := Pb0.out.cell
  have qb2 := Pb2.out.cell
  go_wp2_with fail
  clear qb0 qb2
  refine (kIt.szL _ _ z1 m0 R1.out (by omega) (by omega)).mono ?_
  rintro e wz1 ⟨rfl, x1⟩
  have szz1 := x1.size
  replace R0 := hide (kC.rd_ext R0.out x1)
  replace R1 := hide (kIt.rd_ext R1.out x1)
  replace R2 := hide (kM.rd_ext R2.out x1)
  replace X := hide (X.out.trans x1)
  replace Pb0 := hide (Pb0.out.ext x1)
  replace Pb2 := hide (Pb2.out.ext x1)
  clear x1
  by_cases big : m0 < kIt.wt z1
  · rw [if_neg (by omega)]
    go_wp2_with fail
    go_ret
    exact ⟨rfl, X.out⟩
  have ok1 : kIt.ok z1 := kIt.ok_of (by omega)
  obtain ⟨m1, hm, hm10⟩ : ∃ m : Nat, Hid ((m0 : Int) - (kIt.wt z1 : Nat) = (m : Int)) ∧ m ≤ 1048576 := ⟨m0 - kIt.wt z1, by show _ = _; omega, by omega⟩
  rw [if_pos (by omega), hm.out]
  clear big hm
  have qb0 := Pb0.out.cell
  have qb2 := Pb2.out.cell
  go_wp2_with fail
  clear qb0 qb2
  refine (kM.szL _ _ z2 m1 R2.out (by omega) (by omega)).mono ?_
  rintro e wz ⟨rfl, x1⟩
  have szz2 := x1.size
  replace R0 := hide (kC.rd_ext R0.out x1)
  replace R1 := hide (kIt.rd_ext R1.out x1)
  replace R2 := hide (kM.rd_ext R2.out x1)
  replace X := hide (X.out.trans x1)
  replace Pb0 := hide (Pb0.out.ext x1)
  replace Pb2 := hide (Pb2.out.ext x1)
  clear x1
  by_cases big : m1 < kM.wt z2
  · rw [if_neg (by omega)]
    go_wp2_with fail
    go_ret
    exact ⟨rfl, X.out⟩
  have ok2 : kM.ok z2 := kM.ok_of (by omega)
  obtain ⟨m2, hm, hm20⟩ : ∃ m : Nat, Hid ((m1 : Int) - (kM.wt z2 : Nat) = (m : Int)) ∧ m ≤ 1048576 := ⟨m1 - kM.wt z2, by show _ = _; omega, by omega⟩
  rw [if_pos (by omega), hm.out]
  clear big hm
  have qb0 := Pb0.out.cell
  have qb2 := Pb2.out.cell
  go_wp2_with fail
  clear qb0 qb2
  go_region_held3 (fun w' => (∀ i, w'.cell? ⟨w.heap.size, i, none⟩ = #[Value.slice Ab0 nb0 cb0, .slice Ab0' nb0' cb0', .int .i64 rb0, .int .i64 tb0, .int .i64 pb0, .int .i64 fb0][i]?) ∧ (∀ i, w'.cell? ⟨(w.heap.size + 1), i, none⟩ = #[Value.slice Ab2 nb2 cb2, .slice Ab2' nb2' cb2'][i]?)) (first | exact ⟨(Pb0.out.ext Y4.out).cell, (Pb2.out.ext Y4.out).cell⟩ | exact ⟨(Pb0.out.ext Y3.out).cell, (Pb2.out.ext Y3.out).cell⟩ | exact ⟨(Pb0.out.ext Y2.out).cell, (Pb2.out.ext Y2.out).cell⟩ | exact ⟨(Pb0.out.ext Y1.out).cell, (Pb2.out.ext Y1.out).cell⟩ | exact ⟨(Pb0.out.ext (Ext.drew wz)).cell, (Pb2.out.ext (Ext.drew wz)).cell⟩)
    (first | (go_at_call 8; refine (s.ColumnOf_law w3 _ _ _ z0 z1 z2 z3 (kC.fr_rd (kC.fr_ext (kC.fr_ext T1.out Z2.out) Z3.out)) ok0 (kIt.fr_rd (kIt.fr_ext T2.out Z3.out)) ok1 (kM.fr_rd T3.out) ok2 h3).mono ?_; rintro e w4 ⟨v4_0, rfl, o0, q0, x1⟩; have G4_0 := hide o0; have K4_0 := hide q0; have Z4 := hide x1; have Y4 := hide (Y3.out.trans x1); clear x1 o0 q0) | (go_at_call 11; refine (kM.to w2 _ z2 (kM.rd_ext R2.out Y2.out) ok2).mono ?_; rintro e w3 ⟨u3, rfl, o1, x1⟩; have T3 := hide o1; have Z3 := hide x1; have Y3 := hide (Y2.out.trans x1); clear o1 x1) | (go_at_call 10; refine (kIt.to w1 _ z1 (kIt.rd_ext R1.out Y1.out) ok1).mono ?_; rintro e w2 ⟨u2, rfl, o1, x1⟩; have T2 := hide o1; have Z2 := hide x1; have Y2 := hide (Y1.out.trans x1); clear o1 x1) | (go_at_call 9; refine (kC.to wz.drew _ z0 (kC.rd_ext R0.out (Ext.drew wz)) ok0).mono ?_; rintro e w1 ⟨u1, rfl, o1, x1⟩; have T1 := hide o1; have Z1 := hide x1; have Y1 := hide ((Ext.drew wz).trans x1); clear o1 x1))
  have sz1 := Y1.out.size
  have sz2 := Z2.out.size
  have sz3 := Z3.out.size
  have sz4 := Z4.out.size
  replace R0 := hide (kC.rd_ext R0.out Y4.out)
  replace R1 := hide (kIt.rd_ext R1.out Y4.out)
  replace R2 := hide (kM.rd_ext R2.out Y4.out)
  replace Pb0 := hide (Pb0.out.ext Y4.out)
  replace Pb2 := hide (Pb2.out.ext Y4.out)
  replace X := hide (X.out.trans Y4.out)
  have kc4_0 := kI.ok_cnt K4_0.out
  clear T1 Z1 Y1 T2 Z2 Y2 T3 Z3 Y3 Z4 Y4
  have qb0 := Pb0.out.cell
  have qb2 := Pb2.out.cell
  go_wp2_with fail
  clear qb0 qb2
  refine (kC.to _ _ z0 R0.out ok0).mono ?_
  rintro e w5 ⟨u5, rfl, o1, x1⟩
  obtain ⟨Aa5, na5, ca5, Aa5', na5', ca5', ra5, ta5, pa5, fa5, rfl⟩ := kC.shape (kC.fr_rd o1)
  have sz5 := x1.size
  replace G4_0 := hide (kI.fr_ext G4_0.out x1)
  replace R0 := hide (kC.rd_ext R0.out x1)
  replace R1 := hide (kIt.rd_ext R1.out x1)
  replace R2 := hide (kM.rd_ext R2.out x1)
  replace Pb0 := hide (Pb0.out.ext x1)
  replace Pb2 := hide (Pb2.out.ext x1)
  replace X := hide (X.out.trans x1)
  have T5 := hide o1; clear o1 x1
  have qqb0 := (Pb0.out.alloc (.cells #[.slice Aa5 na5 ca5, .slice Aa5' na5' ca5', .int .i64 ra5, .int .i64 ta5, .int .i64 pa5, .int .i64 fa5] 37)).cell
  have qqb2 := (Pb2.out.alloc (.cells #[.slice Aa5 na5 ca5, .slice Aa5' na5' ca5', .int .i64 ra5, .int .i64 ta5, .int .i64 pa5, .int .i64 fa5] 37)).cell
  have qb0 := Pb0.out.cell
  have qb2 := Pb2.out.cell
  go_wp2_with fail
  clear qb0 qb2
  clear qqb0 qqb2
  obtain ⟨Wa5, hWa5⟩ : ∃ W', Hid (W' = w5.alloc (.cells #[.slice Aa5 na5 ca5, .slice Aa5' na5' ca5', .int .i64 ra5, .int .i64 ta5, .int .i64 pa5, .int .i64 fa5] 37)) := ⟨_, rfl⟩
  have x1 : Ext w5 Wa5 := by rw [hWa5.out]; exact Ext.alloc _ _
  replace G4_0 := hide (kI.fr_ext G4_0.out x1)
  replace T5 := hide (kC.fr_ext T5.out x1)
  replace R0 := hide (kC.rd_ext R0.out x1)
  replace R1 := hide (kIt.rd_ext R1.out x1)
  replace R2 := hide (kM.rd_ext R2.out x1)
  replace Pb0 := hide (Pb0.out.ext x1)
  replace Pb2 := hide (Pb2.out.ext x1)
  replace X := hide (X.out.trans x1)
  have Pa5 : Hid (Blk Wa5 w5.heap.size #[.slice Aa5 na5 ca5, .slice Aa5' na5' ca5', .int .i64 ra5, .int .i64 ta5, .int .i64 pa5, .int .i64 fa5] 37) := by rw [hWa5.out]; exact Blk.new rfl _ _
  have szPa5 := Pa5.out.lt
  rw [← hWa5.out]; clear hWa5 x1
  refine (kIt.to _ _ z1 R1.out ok1).mono ?_
  rintro e w6 ⟨u6, rfl, o1, x1⟩
  have sz6 := x1.size
  replace G4_0 := hide (kI.fr_ext G4_0.out x1)
  replace T5 := hide (kC.fr_ext T5.out x1)
  replace R0 := hide (kC.rd_ext R0.out x1)
  replace R1 := hide (kIt.rd_ext R1.out x1)
  replace R2 := hide (kM.rd_ext R2.out x1)
  replace Pb0 := hide (Pb0.out.ext x1)
  replace Pb2 := hide (Pb2.out.ext x1)
  replace Pa5 := hide (Pa5.out.ext x1)
  replace X := hide (X.out.trans x1)
  have T6 := hide o1; clear o1 x1
  have qb0 := Pb0.out.cell
  have qb2 := Pb2.out.cell
  have qa5 := Pa5.out.cell
  go_wp2_with fail
  clear qb0 qb2 qa5
  refine (kM.to _ _ z2 R2.out ok2).mono ?_
  rintro e w7 ⟨u7, rfl, o1, x1⟩
  obtain ⟨Aa7, na7, ca7, Aa7', na7', ca7', rfl⟩ := kM.shape (kM.fr_rd o1)
  have sz7 := x1.size
  replace G4_0 := hide (kI.fr_ext G4_0.out x1)
  replace T5 := hide (kC.fr_ext T5.out x1)
  replace T6 := hide (kIt.fr_ext T6.out x1)
  replace R0 := hide (kC.rd_ext R0.out x1)
  replace R1 := hide (kIt.rd_ext R1.out x1)
  replace R2 := hide (kM.rd_ext R2.out x1)
  replace Pb0 := hide (Pb0.out.ext x1)
  replace Pb2 := hide (Pb2.out.ext x1)
  replace Pa5 := hide (Pa5.out.ext x1)
  replace X := hide (X.out.trans x1)
  have T7 := hide o1; clear o1 x1
  have qqb0 := (Pb0.out.alloc (.cells #[.slice Aa7 na7 ca7, .slice Aa7' na7' ca7'] 41)).cell
  have qqb2 := (Pb2.out.alloc (.cells #[.slice Aa7 na7 ca7, .slice Aa7' na7' ca7'] 41)).cell
  have qqa5 := (Pa5.out.alloc (.cells #[.slice Aa7 na7 ca7, .slice Aa7' na7' ca7'] 41)).cell
  have qb0 := Pb0.out.cell
  have qb2 := Pb2.out.cell
  have qa5 := Pa5.out.cell
  go_wp2_with fail
  clear qb0 qb2 qa5
  clear qqb0 qqb2 qqa5
  obtain ⟨Wa7, hWa7⟩ : ∃ W', Hid (W' = w7.alloc (.cells #[.slice Aa7 na7 ca7, .slice Aa7' na7' ca7'] 41)) := ⟨_, rfl⟩
  have x1 : Ext w7 Wa7 := by rw [hWa7.out]; exact Ext.alloc _ _
  replace G4_0 := hide (kI.fr_ext G4_0.out x1)
  replace T5 := hide (kC.fr_ext T5.out x1)
  replace T6 := hide (kIt.fr_ext T6.out x1)
  replace T7 := hide (kM.fr_ext T7.out x1)
  replace R0 := hide (kC.rd_ext R0.out x1)
  replace R1 := hide (kIt.rd_ext R1.out x1)
  replace R2 := hide (kM.rd_ext R2.out x1)
  replace Pb0 := hide (Pb0.out.ext x1)
  replace Pb2 := hide (Pb2.out.ext x1)
  replace Pa5 := hide (Pa5.out.ext x1)
  replace X := hide (X.out.trans x1)
  have Pa7 : Hid (Blk Wa7 w7.heap.size #[.slice Aa7 na7 ca7, .slice Aa7' na7' ca7'] 41) := by rw [hWa7.out]; exact Blk.new rfl _ _
  have szPa7 := Pa7.out.lt
  rw [← hWa7.out]; clear hWa7 x1
  refine (i.ColumnOf_law _ _ _ _ z0 z1 z2 z3 (kC.fr_rd T5.out) ok0 (kIt.fr_rd T6.out) ok1 (kM.fr_rd T7.out) ok2 h3).mono ?_
  rintro e w8 ⟨v8_0, rfl, o0, q0, x1⟩
  have sz8 := x1.size
  replace G4_0 := hide (kI.fr_ext G4_0.out x1)
  replace T5 := hide (kC.fr_ext T5.out x1)
  replace T6 := hide (kIt.fr_ext T6.out x1)
  replace T7 := hide (kM.fr_ext T7.out x1)
  replace R0 := hide (kC.rd_ext R0.out x1)
  replace R1 := hide (kIt.rd_ext R1.out x1)
  replace R2 := hide (kM.rd_ext R2.out x1)
  replace Pb0 := hide (Pb0.out.ext x1)
  replace Pb2 := hide (Pb2.out.ext x1)
  replace Pa5 := hide (Pa5.out.ext x1)
  replace Pa7 := hide (Pa7.out.ext x1)
  replace X := hide (X.out.trans x1)
  have G8_0 := hide o0; have K8_0 := hide q0; clear o0 q0
  have kc8_0 := kI.ok_cnt K8_0.out
  clear x1
  have qb0 := Pb0.out.cell
  have qb2 := Pb2.out.cell
  have qa5 := Pa5.out.cell
  have qa7 := Pa7.out.cell
  go_wp2_with fail
  clear qb0 qb2 qa5 qa7
  refine (kI.eq _ _ _ _ (kI.fr_rd G8_0.out) (kI.fr_rd G4_0.out) K4_0.out).mono ?_
  rintro e w9 ⟨rfl, x1⟩
  have sz9 := x1.size
  replace G4_0 := hide (kI.fr_ext G4_0.out x1)
  replace T5 := hide (kC.fr_ext T5.out x1)
  replace T6 := hide (kIt.fr_ext T6.out x1)
  replace T7 := hide (kM.fr_ext T7.out x1)
  replace G8_0 := hide (kI.fr_ext G8_0.out x1)
  replace R0 := hide (kC.rd_ext R0.out x1)
  replace R1 := hide (kIt.rd_ext R1.out x1)
  replace R2 := hide (kM.rd_ext R2.out x1)
  replace Pb0 := hide (Pb0.out.ext x1)
  replace Pb2 := hide (Pb2.out.ext x1)
  replace Pa5 := hide (Pa5.out.ext x1)
  replace Pa7 := hide (Pa7.out.ext x1)
  replace X := hide (X.out.trans x1)
  clear x1
  have qb0 := Pb0.out.cell
  have qb2 := Pb2.out.cell
  have qa5 := Pa5.out.cell
  have qa7 := Pa7.out.cell
  go_wp2_with fail
  clear qb0 qb2 qa5 qa7
  go_region_held3 (fun w' => (∀ i, w'.cell? ⟨w5.heap.size, i, none⟩ = #[Value.slice Aa5 na5 ca5, .slice Aa5' na5' ca5', .int .i64 ra5, .int .i64 ta5, .int .i64 pa5, .int .i64 fa5][i]?) ∧ (∀ i, w'.cell? ⟨w.heap.size, i, none⟩ = #[Value.slice Ab0 nb0 cb0, .slice Ab0' nb0' cb0', .int .i64 rb0, .int .i64 tb0, .int .i64 pb0, .int .i64 fb0][i]?)) (first | exact ⟨(Pa5.out.ext Y11.out).cell, (Pb0.out.ext Y11.out).cell⟩ | exact ⟨(Pa5.out.ext Y10.out).cell, (Pb0.out.ext Y10.out).cell⟩ | exact ⟨(Pa5.out.ext (Ext.drew w9)).cell, (Pb0.out.ext (Ext.drew w9)).cell⟩)
    (first | (go_at_call 9; refine (kC.to w9.drew _ z0 (kC.rd_ext R0.out (Ext.drew w9)) ok0).mono ?_; rintro e w10 ⟨u10, rfl, o1, x1⟩; have T10 := hide o1; have Y10 := hide ((Ext.drew w9).trans x1); clear o1 x1) | (go_at_call 14; refine (kC.eq w10 _ _ z0 (kC.fr_rd (kC.fr_ext T5.out Y10.out)) (kC.fr_rd T10.out) ok0).mono ?_; rintro e w11 ⟨rfl, x1⟩; have Y11 := hide (Y10.out.trans x1); clear x1))
  have sz11 := Y11.out.size
  replace G4_0 := hide (kI.fr_ext G4_0.out Y11.out)
  replace T5 := hide (kC.fr_ext T5.out Y11.out)
  replace T6 := hide (kIt.fr_ext T6.out Y11.out)
  replace T7 := hide (kM.fr_ext T7.out Y11.out)
  replace G8_0 := hide (kI.fr_ext G8_0.out Y11.out)
  replace R0 := hide (kC.rd_ext R0.out Y11.out)
  replace R1 := hide (kIt.rd_ext R1.out Y11.out)
  replace R2 := hide (kM.rd_ext R2.out Y11.out)
  replace Pb0 := hide (Pb0.out.ext Y11.out)
  replace Pb2 := hide (Pb2.out.ext Y11.out)
  replace Pa5 := hide (Pa5.out.ext Y11.out)
  replace Pa7 := hide (Pa7.out.ext Y11.out)
  replace X := hide (X.out.trans Y11.out)
  clear T10 Y10 Y11
  have qb0 := Pb0.out.cell
  have qb2 := Pb2.out.cell
  have qa5 := Pa5.out.cell
  have qa7 := Pa7.out.cell
  go_wp2_with fail
  clear qb0 qb2 qa5 qa7
  refine (kIt.to _ _ z1 R1.out ok1).mono ?_
  rintro e w12 ⟨u12, rfl, o1, x1⟩
  have sz12 := x1.size
  replace G4_0 := hide (kI.fr_ext G4_0.out x1)
  replace T5 := hide (kC.fr_ext T5.out x1)
  replace T6 := hide (kIt.fr_ext T6.out x1)
  replace T7 := hide (kM.fr_ext T7.out x1)
  replace G8_0 := hide (kI.fr_ext G8_0.out x1)
  replace R0 := hide (kC.rd_ext R0.out x1)
  replace R1 := hide (kIt.rd_ext R1.out x1)
  replace R2 := hide (kM.rd_ext R2.out x1)
  replace Pb0 := hide (Pb0.out.ext x1)
  replace Pb2 := hide (Pb2.out.ext x1)
  replace Pa5 := hide (Pa5.out.ext x1)
  replace Pa7 := hide (Pa7.out.ext x1)
  replace X := hide (X.out.trans x1)
  have T12 := hide o1; clear o1 x1
  have qb0 := Pb0.out.cell
  have qb2 := Pb2.out.cell
  have qa5 := Pa5.out.cell
  have qa7 := Pa7.out.cell
  go_wp2_with fail
  clear qb0 qb2 qa5 qa7
  refine (kIt.eq _ _ _ _ (kIt.fr_rd T6.out) (kIt.fr_rd T12.out) ok1).mono ?_
  rintro e w13 ⟨rfl, x1⟩
  have sz13 := x1.size
  clear T12
  replace G4_0 := hide (kI.fr_ext G4_0.out x1)
  replace T5 := hide (kC.fr_ext T5.out x1)
  replace T6 := hide (kIt.fr_ext T6.out x1)
  replace T7 := hide (kM.fr_ext T7.out x1)
  replace G8_0 := hide (kI.fr_ext G8_0.out x1)
  replace R0 := hide (kC.rd_ext R0.out x1)
  replace R1 := hide (kIt.rd_ext R1.out x1)
  replace R2 := hide (kM.rd_ext R2.out x1)
  replace Pb0 := hide (Pb0.out.ext x1)
  replace Pb2 := hide (Pb2.out.ext x1)
  replace Pa5 := hide (Pa5.out.ext x1)
  replace Pa7 := hide (Pa7.out.ext x1)
  replace X := hide (X.out.trans x1)
  clear x1
  have qb0 := Pb0.out.cell
  have qb2 := Pb2.out.cell
  have qa5 := Pa5.out.cell
  have qa7 := Pa7.out.cell
  go_wp2_with fail
  clear qb0 qb2 qa5 qa7
  go_region_held3 (fun w' => (∀ i, w'.cell? ⟨w7.heap.size, i, none⟩ = #[Value.slice Aa7 na7 ca7, .slice Aa7' na7' ca7'][i]?) ∧ (∀ i, w'.cell? ⟨(w.heap.size + 1), i, none⟩ = #[Value.slice Ab2 nb2 cb2, .slice Ab2' nb2' cb2'][i]?)) (first | exact ⟨(Pa7.out.ext Y15.out).cell, (Pb2.out.ext Y15.out).cell⟩ | exact ⟨(Pa7.out.ext Y14.out).cell, (Pb2.out.ext Y14.out).cell⟩ | exact ⟨(Pa7.out.ext (Ext.drew w13)).cell, (Pb2.out.ext (Ext.drew w13)).cell⟩)
    (first | (go_at_call 11; refine (kM.to w13.drew _ z2 (kM.rd_ext R2.out (Ext.drew w13)) ok2).mono ?_; rintro e w14 ⟨u14, rfl, o1, x1⟩; have T14 := hide o1; have Y14 := hide ((Ext.drew w13).trans x1); clear o1 x1) | (go_at_call 16; refine (kM.eq w14 _ _ z2 (kM.fr_rd (kM.fr_ext T7.out Y14.out)) (kM.fr_rd T14.out) ok2).mono ?_; rintro e w15 ⟨rfl, x1⟩; have Y15 := hide (Y14.out.trans x1); clear x1))
  have sz15 := Y15.out.size
  replace G4_0 := hide (kI.fr_ext G4_0.out Y15.out)
  replace T5 := hide (kC.fr_ext T5.out Y15.out)
  replace T6 := hide (kIt.fr_ext T6.out Y15.out)
  replace T7 := hide (kM.fr_ext T7.out Y15.out)
  replace G8_0 := hide (kI.fr_ext G8_0.out Y15.out)
  replace R0 := hide (kC.rd_ext R0.out Y15.out)
  replace R1 := hide (kIt.rd_ext R1.out Y15.out)
  replace R2 := hide (kM.rd_ext R2.out Y15.out)
  replace Pb0 := hide (Pb0.out.ext Y15.out)
  replace Pb2 := hide (Pb2.out.ext Y15.out)
  replace Pa5 := hide (Pa5.out.ext Y15.out)
  replace Pa7 := hide (Pa7.out.ext Y15.out)
  replace X := hide (X.out.trans Y15.out)
  clear T14 Y14 Y15
  have qb0 := Pb0.out.cell
  have qb2 := Pb2.out.cell
  have qa5 := Pa5.out.cell
  have qa7 := Pa7.out.cell
  go_wp2_with fail
  clear qb0 qb2 qa5 qa7
  have kx16 := kC.ok_cnt ok0
  refine (kC.mark _ _ _ _ z0 _ T5.out ok0 (by omega) (by omega)).mono ?_
  rintro e w16 ⟨rfl, o1, t1⟩
  have sz16 := t1.size
  replace G4_0 := hide (kI.fr_tch G4_0.out t1 (by omega))
  replace T6 := hide (kIt.fr_tch T6.out t1 (by omega))
  replace T7 := hide (kM.fr_tch T7.out t1 (by omega))
  replace G8_0 := hide (kI.fr_tch G8_0.out t1 (by omega))
  replace Pb0 := hide (Pb0.out.tch t1 (by omega))
  replace Pb2 := hide (Pb2.out.tch t1 (by omega))
  replace Pa5 := hide (Pa5.out.tch t1 (by omega))
  replace Pa7 := hide (Pa7.out.tch t1 (by omega))
  replace R0 := hide (kC.rd_ext RR0.out (X.out.tch t1 (by omega)))
  replace R1 := hide (kIt.rd_ext RR1.out (X.out.tch t1 (by omega)))
  replace R2 := hide (kM.rd_ext RR2.out (X.out.tch t1 (by omega)))
  replace X := hide (X.out.tch t1 (by omega))
  have T5m := hide o1; clear o1 t1 T5
  have qb0 := Pb0.out.cell
  have qb2 := Pb2.out.cell
  have qa5 := Pa5.out.cell
  have qa7 := Pa7.out.cell
  go_wp2_with fail
  clear qb0 qb2 qa5 qa7
  have kx17 := kIt.ok_cnt ok1
  refine (kIt.mark _ _ _ _ z1 _ T6.out ok1 (by omega) (by omega)).mono ?_
  rintro e w17 ⟨rfl, o1, t1⟩
  have sz17 := t1.size
  replace G4_0 := hide (kI.fr_tch G4_0.out t1 (by omega))
  replace T5m := hide (kC.fr_tch T5m.out t1 (by omega))
  replace T7 := hide (kM.fr_tch T7.out t1 (by omega))
  replace G8_0 := hide (kI.fr_tch G8_0.out t1 (by omega))
  replace Pb0 := hide (Pb0.out.tch t1 (by omega))
  replace Pb2 := hide (Pb2.out.tch t1 (by omega))
  replace Pa5 := hide (Pa5.out.tch t1 (by omega))
  replace Pa7 := hide (Pa7.out.tch t1 (by omega))
  replace R0 := hide (kC.rd_ext RR0.out (X.out.tch t1 (by omega)))
  replace R1 := hide (kIt.rd_ext RR1.out (X.out.tch t1 (by omega)))
  replace R2 := hide (kM.rd_ext RR2.out (X.out.tch t1 (by omega)))
  replace X := hide (X.out.tch t1 (by omega))
  have T6m := hide o1; clear o1 t1 T6
  have qb0 := Pb0.out.cell
  have qb2 := Pb2.out.cell
  have qa5 := Pa5.out.cell
  have qa7 := Pa7.out.cell
  go_wp2_with fail
  clear qb0 qb2 qa5 qa7
  have kx18 := kM.ok_cnt ok2
  refine (kM.mark _ _ _ _ z2 _ T7.out ok2 (by omega) (by omega)).mono ?_
  rintro e w18 ⟨rfl, o1, t1⟩
  have sz18 := t1.size
  replace G4_0 := hide (kI.fr_tch G4_0.out t1 (by omega))
  replace T5m := hide (kC.fr_tch T5m.out t1 (by omega))
  replace T6m := hide (kIt.fr_tch T6m.out t1 (by omega))
  replace G8_0 := hide (kI.fr_tch G8_0.out t1 (by omega))
  replace Pb0 := hide (Pb0.out.tch t1 (by omega))
  replace Pb2 := hide (Pb2.out.tch t1 (by omega))
  replace Pa5 := hide (Pa5.out.tch t1 (by omega))
  replace Pa7 := hide (Pa7.out.tch t1 (by omega))
  replace R0 := hide (kC.rd_ext RR0.out (X.out.tch t1 (by omega)))
  replace R1 := hide (kIt.rd_ext RR1.out (X.out.tch t1 (by omega)))
  replace R2 := hide (kM.rd_ext RR2.out (X.out.tch t1 (by omega)))
  replace X := hide (X.out.tch t1 (by omega))
  have T7m := hide o1; clear o1 t1 T7
  have qb0 := Pb0.out.cell
  have qb2 := Pb2.out.cell
  have qa5 := Pa5.out.cell
  have qa7 := Pa7.out.cell
  go_wp2_with fail
  clear qb0 qb2 qa5 qa7
  refine (kI.eq _ _ _ _ (kI.fr_rd G8_0.out) (kI.fr_rd G4_0.out) K4_0.out).mono ?_
  rintro e w19 ⟨rfl, x1⟩
  have sz19 := x1.size
  replace G4_0 := hide (kI.fr_ext G4_0.out x1)
  replace T5m := hide (kC.fr_ext T5m.out x1)
  replace T6m := hide (kIt.fr_ext T6m.out x1)
  replace T7m := hide (kM.fr_ext T7m.out x1)
  replace G8_0 := hide (kI.fr_ext G8_0.out x1)
  replace R0 := hide (kC.rd_ext R0.out x1)
  replace R1 := hide (kIt.rd_ext R1.out x1)
  replace R2 := hide (kM.rd_ext R2.out x1)
  replace Pb0 := hide (Pb0.out.ext x1)
  replace Pb2 := hide (Pb2.out.ext x1)
  replace Pa5 := hide (Pa5.out.ext x1)
  replace Pa7 := hide (Pa7.out.ext x1)
  replace X := hide (X.out.trans x1)
  clear x1
  have qb0 := Pb0.out.cell
  have qb2 := Pb2.out.cell
  have qa5 := Pa5.out.cell
  have qa7 := Pa7.out.cell
  go_wp2_with fail
  clear qb0 qb2 qa5 qa7
  have kx20 := kI.ok_cnt K8_0.out
  refine (kI.mark _ _ _ _ (columnF z0 z1 z2 z3).1 _ G8_0.out K8_0.out (by omega) (by omega)).mono ?_
  rintro e w20 ⟨rfl, o1, t1⟩
  have sz20 := t1.size
  replace G4_0 := hide (kI.fr_tch G4_0.out t1 (by omega))
  replace T5m := hide (kC.fr_tch T5m.out t1 (by omega))
  replace T6m := hide (kIt.fr_tch T6m.out t1 (by omega))
  replace T7m := hide (kM.fr_tch T7m.out t1 (by omega))
  replace Pb0 := hide (Pb0.out.tch t1 (by omega))
  replace Pb2 := hide (Pb2.out.tch t1 (by omega))
  replace Pa5 := hide (Pa5.out.tch t1 (by omega))
  replace Pa7 := hide (Pa7.out.tch t1 (by omega))
  replace R0 := hide (kC.rd_ext RR0.out (X.out.tch t1 (by omega)))
  replace R1 := hide (kIt.rd_ext RR1.out (X.out.tch t1 (by omega)))
  replace R2 := hide (kM.rd_ext RR2.out (X.out.tch t1 (by omega)))
  replace X := hide (X.out.tch t1 (by omega))
  have G8_0m := hide o1; clear o1 t1 G8_0
  have qb0 := Pb0.out.cell
  have qb2 := Pb2.out.cell
  have qa5 := Pa5.out.cell
  have qa7 := Pa7.out.cell
  go_wp2_with fail
  clear qb0 qb2 qa5 qa7
  refine (kI.held _ _ (columnF z0 z1 z2 z3).1 _ (kI.fr_rd G8_0m.out) K8_0.out (by omega) (by omega)).mono ?_
  rintro e w21 ⟨rfl, x1⟩
  have sz21 := x1.size
  replace G4_0 := hide (kI.fr_ext G4_0.out x1)
  replace T5m := hide (kC.fr_ext T5m.out x1)
  replace T6m := hide (kIt.fr_ext T6m.out x1)
  replace T7m := hide (kM.fr_ext T7m.out x1)
  replace G8_0m := hide (kI.fr_ext G8_0m.out x1)
  replace R0 := hide (kC.rd_ext R0.out x1)
  replace R1 := hide (kIt.rd_ext R1.out x1)
  replace R2 := hide (kM.rd_ext R2.out x1)
  replace Pb0 := hide (Pb0.out.ext x1)
  replace Pb2 := hide (Pb2.out.ext x1)
  replace Pa5 := hide (Pa5.out.ext x1)
  replace Pa7 := hide (Pa7.out.ext x1)
  replace X := hide (X.out.trans x1)
  clear x1
  have qb0 := Pb0.out.cell
  have qb2 := Pb2.out.cell
  have qa5 := Pa5.out.cell
  have qa7 := Pa7.out.cell
  go_wp2_with fail
  clear qb0 qb2 qa5 qa7
  go_region_held3 (fun w' => (∀ i, w'.cell? ⟨w.heap.size, i, none⟩ = #[Value.slice Ab0 nb0 cb0, .slice Ab0' nb0' cb0', .int .i64 rb0, .int .i64 tb0, .int .i64 pb0, .int .i64 fb0][i]?) ∧ (∀ i, w'.cell? ⟨(w.heap.size + 1), i, none⟩ = #[Value.slice Ab2 nb2 cb2, .slice Ab2' nb2' cb2'][i]?)) (first | exact ⟨(Pb0.out.ext Y25.out).cell, (Pb2.out.ext Y25.out).cell⟩ | exact ⟨(Pb0.out.ext Y24.out).cell, (Pb2.out.ext Y24.out).cell⟩ | exact ⟨(Pb0.out.ext Y23.out).cell, (Pb2.out.ext Y23.out).cell⟩ | exact ⟨(Pb0.out.ext Y22.out).cell, (Pb2.out.ext Y22.out).cell⟩ | exact ⟨(Pb0.out.ext (Ext.drew w21)).cell, (Pb2.out.ext (Ext.drew w21)).cell⟩)
    (first | (go_at_call 12; refine (i.ColumnOf_law w24 _ _ _ z0 z1 z2 z3 (kC.fr_rd (kC.fr_ext (kC.fr_ext T22.out Z23.out) Z24.out)) ok0 (kIt.fr_rd (kIt.fr_ext T23.out Z24.out)) ok1 (kM.fr_rd T24.out) ok2 h3).mono ?_; rintro e w25 ⟨v25_0, rfl, o0, q0, x1⟩; have G25_0 := hide o0; have K25_0 := hide q0; have Z25 := hide x1; have Y25 := hide (Y24.out.trans x1); clear x1 o0 q0) | (go_at_call 11; refine (kM.to w23 _ z2 (kM.rd_ext R2.out Y23.out) ok2).mono ?_; rintro e w24 ⟨u24, rfl, o1, x1⟩; have T24 := hide o1; have Z24 := hide x1; have Y24 := hide (Y23.out.trans x1); clear o1 x1) | (go_at_call 10; refine (kIt.to w22 _ z1 (kIt.rd_ext R1.out Y22.out) ok1).mono ?_; rintro e w23 ⟨u23, rfl, o1, x1⟩; have T23 := hide o1; have Z23 := hide x1; have Y23 := hide (Y22.out.trans x1); clear o1 x1) | (go_at_call 9; refine (kC.to w21.drew _ z0 (kC.rd_ext R0.out (Ext.drew w21)) ok0).mono ?_; rintro e w22 ⟨u22, rfl, o1, x1⟩; have T22 := hide o1; have Z22 := hide x1; have Y22 := hide ((Ext.drew w21).trans x1); clear o1 x1))
  have sz22 := Y22.out.size
  have sz23 := Z23.out.size
  have sz24 := Z24.out.size
  have sz25 := Z25.out.size
  replace G4_0 := hide (kI.fr_ext G4_0.out Y25.out)
  replace T5m := hide (kC.fr_ext T5m.out Y25.out)
  replace T6m := hide (kIt.fr_ext T6m.out Y25.out)
  replace T7m := hide (kM.fr_ext T7m.out Y25.out)
  replace G8_0m := hide (kI.fr_ext G8_0m.out Y25.out)
  replace R0 := hide (kC.rd_ext R0.out Y25.out)
  replace R1 := hide (kIt.rd_ext R1.out Y25.out)
  replace R2 := hide (kM.rd_ext R2.out Y25.out)
  replace Pb0 := hide (Pb0.out.ext Y25.out)
  replace Pb2 := hide (Pb2.out.ext Y25.out)
  replace Pa5 := hide (Pa5.out.ext Y25.out)
  replace Pa7 := hide (Pa7.out.ext Y25.out)
  replace X := hide (X.out.trans Y25.out)
  have kc25_0 := kI.ok_cnt K25_0.out
  clear T22 Z22 Y22 T23 Z23 Y23 T24 Z24 Y24 Z25 Y25
  have qb0 := Pb0.out.cell
  have qb2 := Pb2.out.cell
  have qa5 := Pa5.out.cell
  have qa7 := Pa7.out.cell
  go_wp2_with fail
  clear qb0 qb2 qa5 qa7
  refine (kI.eq _ _ _ _ (kI.fr_rd G25_0.out) (kI.fr_rd G4_0.out) K4_0.out).mono ?_
  rintro e w26 ⟨rfl, x1⟩
  have sz26 := x1.size
  replace G4_0 := hide (kI.fr_ext G4_0.out x1)
  replace T5m := hide (kC.fr_ext T5m.out x1)
  replace T6m := hide (kIt.fr_ext T6m.out x1)
  replace T7m := hide (kM.fr_ext T7m.out x1)
  replace G8_0m := hide (kI.fr_ext G8_0m.out x1)
  replace G25_0 := hide (kI.fr_ext G25_0.out x1)
  replace R0 := hide (kC.rd_ext R0.out x1)
  replace R1 := hide (kIt.rd_ext R1.out x1)
  replace R2 := hide (kM.rd_ext R2.out x1)
  replace Pb0 := hide (Pb0.out.ext x1)
  replace Pb2 := hide (Pb2.out.ext x1)
  replace Pa5 := hide (Pa5.out.ext x1)
  replace Pa7 := hide (Pa7.out.ext x1)
  replace X := hide (X.out.trans x1)
  clear x1
  have qb0 := Pb0.out.cell
  have qb2 := Pb2.out.cell
  have qa5 := Pa5.out.cell
  have qa7 := Pa7.out.cell
  go_wp2_with fail
  clear qb0 qb2 qa5 qa7
  refine (kI.held _ _ (columnF z0 z1 z2 z3).1 _ (kI.fr_rd G8_0m.out) K8_0.out (by omega) (by omega)).mono ?_
  rintro e w27 ⟨rfl, x1⟩
  have sz27 := x1.size
  replace G4_0 := hide (kI.fr_ext G4_0.out x1)
  replace T5m := hide (kC.fr_ext T5m.out x1)
  replace T6m := hide (kIt.fr_ext T6m.out x1)
  replace T7m := hide (kM.fr_ext T7m.out x1)
  replace G8_0m := hide (kI.fr_ext G8_0m.out x1)
  replace G25_0 := hide (kI.fr_ext G25_0.out x1)
  replace R0 := hide (kC.rd_ext R0.out x1)
  replace R1 := hide (kIt.rd_ext R1.out x1)
  replace R2 := hide (kM.rd_ext R2.out x1)
  replace Pb0 := hide (Pb0.out.ext x1)
  replace Pb2 := hide (Pb2.out.ext x1)
  replace Pa5 := hide (Pa5.out.ext x1)
  replace Pa7 := hide (Pa7.out.ext x1)
  replace X := hide (X.out.trans x1)
  clear x1
  have qb0 := Pb0.out.cell
  have qb2 := Pb2.out.cell
  have qa5 := Pa5.out.cell
  have qa7 := Pa7.out.cell
  go_wp2_with fail
  clear qb0 qb2 qa5 qa7
  go_ret
  exact ⟨rfl, X.out⟩

end Go.Proofs.YtcmoedjcokkdcaaGreat
