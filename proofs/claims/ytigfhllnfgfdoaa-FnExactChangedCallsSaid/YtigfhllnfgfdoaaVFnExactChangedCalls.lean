/- The walk of FnExactChangedCalls. -/
import Derived.Test.YtigfhllnfgfdoaaOU
import Derived.Deep.RegionHeld3
namespace Go.Proofs.Ytigfhllnfgfdoaa
open Go.RowKit Go.Sort
set_option linter.unusedVariables false
set_option maxHeartbeats 1600000 in
set_option maxRecDepth 100000 in
theorem FnExactChangedCalls_walk (v0 : Value) (z0 : ShD) (v1 : Value) (z1 : ShD) (w : World) (h0 : kSm.rd w v0 z0) (h1 : kSm.rd w v1 z1) :
    Calls Try.prog 9 #[v0, v1] w fun e w' => e = .returned (.bool true) ∧ Ext w w' := by
  obtain ⟨Ab0, nb0, cb0, Ab0', nb0', cb0', Ab0'', nb0'', cb0'', rfl⟩ := kSm.shape h0
  have R0 := hide h0; clear h0
  obtain ⟨Ab1, nb1, cb1, Ab1', nb1', cb1', Ab1'', nb1'', cb1'', rfl⟩ := kSm.shape h1
  have R1 := hide h1; clear h1
  obtain ⟨W0, hW0⟩ : ∃ W0, Hid (W0 = ((w.alloc (.cells #[.slice Ab0 nb0 cb0, .slice Ab0' nb0' cb0', .slice Ab0'' nb0'' cb0''] 26)).alloc (.cells #[.slice Ab1 nb1 cb1, .slice Ab1' nb1' cb1', .slice Ab1'' nb1'' cb1''] 26))) := ⟨_, rfl⟩
  have X : Hid (Ext w W0) := by rw [hW0.out]; exact (Ext.alloc w _).trans (Ext.alloc _ _)
  have Pb0 : Hid (Blk W0 (w.heap.size) #[.slice Ab0 nb0 cb0, .slice Ab0' nb0' cb0', .slice Ab0'' nb0'' cb0''] 26) := by rw [hW0.out]; exact (Blk.new rfl _ _).alloc _
  have szb0 := Pb0.out.lt
  have Pb1 : Hid (Blk W0 (w.heap.size + 1) #[.slice Ab1 nb1 cb1, .slice Ab1' nb1' cb1', .slice Ab1'' nb1'' cb1''] 26) := by rw [hW0.out]; exact Blk.new (by simp) _ _
  have szb1 := Pb1.out.lt
  have RR0 := R0
  replace R0 := hide (kSm.rd_ext R0.out X.out)
  have RR1 := R1
  replace R1 := hide (kSm.rd_ext R1.out X.out)
  go_enter Try.func9, Try.ntmps9
  go_wp2_with fail
  rw [← hW0.out]; clear hW0
  refine (kSm.sz _ _ z0 R0.out).mono ?_
  rintro e wz0 ⟨rfl, x1⟩
  have szz0 := x1.size
  replace R0 := hide (kSm.rd_ext R0.out x1)
  replace R1 := hide (kSm.rd_ext R1.out x1)
  replace X := hide (X.out.trans x1)
  replace Pb0 := hide (Pb0.out.ext x1)
  replace Pb1 := hide (Pb1.out.ext x1)
  clear x1
  by_cases big : 1048576 < kSm.wt z0
  · rw [if_neg (by omega)]
    go_wp2_with fail
    go_ret
    exact ⟨rfl, X.out⟩
  have ok0 : kSm.ok z0 := kSm.ok_of (by omega)
  obtain ⟨m0, hm, hm00⟩ : ∃ m : Nat, Hid ((1048576 : Int) - (kSm.wt z0 : Nat) = (m : Int)) ∧ m ≤ 1048576 := ⟨1048576 - kSm.wt z0, by show _ = _; omega, by omega⟩
  rw [if_pos (by omega), hm.out]
  clear big hm
  have qb0 := Pb0.out.cell
  have qb1 := Pb1.out.cell
  go_wp2_with fail
  clear qb0 qb1
  refine (kSm.szL _ _ z1 m0 R1.out (by omega) (by omega)).mono ?_
  rintro e wz ⟨rfl, x1⟩
  have szz1 := x1.size
  replace R0 := hide (kSm.rd_ext R0.out x1)
  replace R1 := hide (kSm.rd_ext R1.out x1)
  replace X := hide (X.out.trans x1)
  replace Pb0 := hide (Pb0.out.ext x1)
  replace Pb1 := hide (Pb1.out.ext x1)
  clear x1
  by_cases big : m0 < kSm.wt z1
  · rw [if_neg (by omega)]
    go_wp2_with fail
    go_ret
    exact ⟨rfl, X.out⟩
  have ok1 : kSm.ok z1 := kSm.ok_of (by omega)
  obtain ⟨m1, hm, hm10⟩ : ∃ m : Nat, Hid ((m0 : Int) - (kSm.wt z1 : Nat) = (m : Int)) ∧ m ≤ 1048576 := ⟨m0 - kSm.wt z1, by show _ = _; omega, by omega⟩
  rw [if_pos (by omega), hm.out]
  clear big hm
  have qb0 := Pb0.out.cell
  have qb1 := Pb1.out.cell
  go_wp2_with fail
  clear qb0 qb1
  go_region_held3 (fun w' => (∀ i, w'.cell? ⟨w.heap.size, i, none⟩ = #[Value.slice Ab0 nb0 cb0, .slice Ab0' nb0' cb0', .slice Ab0'' nb0'' cb0''][i]?) ∧ (∀ i, w'.cell? ⟨(w.heap.size + 1), i, none⟩ = #[Value.slice Ab1 nb1 cb1, .slice Ab1' nb1' cb1', .slice Ab1'' nb1'' cb1''][i]?)) (first | exact ⟨(Pb0.out.ext Y3.out).cell, (Pb1.out.ext Y3.out).cell⟩ | exact ⟨(Pb0.out.ext Y2.out).cell, (Pb1.out.ext Y2.out).cell⟩ | exact ⟨(Pb0.out.ext Y1.out).cell, (Pb1.out.ext Y1.out).cell⟩ | exact ⟨(Pb0.out.ext (Ext.drew wz)).cell, (Pb1.out.ext (Ext.drew wz)).cell⟩)
    (first | (go_at_call 42; refine (s.ChangedCalls_law w2 _ _ z0 z1 (kSm.fr_rd (kSm.fr_ext T1.out Z2.out)) ok0 (kSm.fr_rd T2.out) ok1).mono ?_; rintro e w3 ⟨v3_0, rfl, o0, q0, x1⟩; have G3_0 := hide o0; have K3_0 := hide q0; have Z3 := hide x1; have Y3 := hide (Y2.out.trans x1); clear x1 o0 q0) | (go_at_call 17; refine (kSm.to w1 _ z1 (kSm.rd_ext R1.out Y1.out) ok1).mono ?_; rintro e w2 ⟨u2, rfl, o1, x1⟩; have T2 := hide o1; have Z2 := hide x1; have Y2 := hide (Y1.out.trans x1); clear o1 x1) | (go_at_call 17; refine (kSm.to wz.drew _ z0 (kSm.rd_ext R0.out (Ext.drew wz)) ok0).mono ?_; rintro e w1 ⟨u1, rfl, o1, x1⟩; have T1 := hide o1; have Z1 := hide x1; have Y1 := hide ((Ext.drew wz).trans x1); clear o1 x1))
  have sz1 := Y1.out.size
  have sz2 := Z2.out.size
  have sz3 := Z3.out.size
  replace R0 := hide (kSm.rd_ext R0.out Y3.out)
  replace R1 := hide (kSm.rd_ext R1.out Y3.out)
  replace Pb0 := hide (Pb0.out.ext Y3.out)
  replace Pb1 := hide (Pb1.out.ext Y3.out)
  replace X := hide (X.out.trans Y3.out)
  have kc3_0 := kII.ok_cnt K3_0.out
  clear T1 Z1 Y1 T2 Z2 Y2 Z3 Y3
  have qb0 := Pb0.out.cell
  have qb1 := Pb1.out.cell
  go_wp2_with fail
  clear qb0 qb1
  refine (kSm.to _ _ z0 R0.out ok0).mono ?_
  rintro e w4 ⟨u4, rfl, o1, x1⟩
  obtain ⟨Aa4, na4, ca4, Aa4', na4', ca4', Aa4'', na4'', ca4'', rfl⟩ := kSm.shape (kSm.fr_rd o1)
  have sz4 := x1.size
  replace G3_0 := hide (kII.fr_ext G3_0.out x1)
  replace R0 := hide (kSm.rd_ext R0.out x1)
  replace R1 := hide (kSm.rd_ext R1.out x1)
  replace Pb0 := hide (Pb0.out.ext x1)
  replace Pb1 := hide (Pb1.out.ext x1)
  replace X := hide (X.out.trans x1)
  have T4 := hide o1; clear o1 x1
  have qqb0 := (Pb0.out.alloc (.cells #[.slice Aa4 na4 ca4, .slice Aa4' na4' ca4', .slice Aa4'' na4'' ca4''] 32)).cell
  have qqb1 := (Pb1.out.alloc (.cells #[.slice Aa4 na4 ca4, .slice Aa4' na4' ca4', .slice Aa4'' na4'' ca4''] 32)).cell
  have qb0 := Pb0.out.cell
  have qb1 := Pb1.out.cell
  go_wp2_with fail
  clear qb0 qb1
  clear qqb0 qqb1
  obtain ⟨Wa4, hWa4⟩ : ∃ W', Hid (W' = w4.alloc (.cells #[.slice Aa4 na4 ca4, .slice Aa4' na4' ca4', .slice Aa4'' na4'' ca4''] 32)) := ⟨_, rfl⟩
  have x1 : Ext w4 Wa4 := by rw [hWa4.out]; exact Ext.alloc _ _
  replace G3_0 := hide (kII.fr_ext G3_0.out x1)
  replace T4 := hide (kSm.fr_ext T4.out x1)
  replace R0 := hide (kSm.rd_ext R0.out x1)
  replace R1 := hide (kSm.rd_ext R1.out x1)
  replace Pb0 := hide (Pb0.out.ext x1)
  replace Pb1 := hide (Pb1.out.ext x1)
  replace X := hide (X.out.trans x1)
  have Pa4 : Hid (Blk Wa4 w4.heap.size #[.slice Aa4 na4 ca4, .slice Aa4' na4' ca4', .slice Aa4'' na4'' ca4''] 32) := by rw [hWa4.out]; exact Blk.new rfl _ _
  have szPa4 := Pa4.out.lt
  rw [← hWa4.out]; clear hWa4 x1
  refine (kSm.to _ _ z1 R1.out ok1).mono ?_
  rintro e w5 ⟨u5, rfl, o1, x1⟩
  obtain ⟨Aa5, na5, ca5, Aa5', na5', ca5', Aa5'', na5'', ca5'', rfl⟩ := kSm.shape (kSm.fr_rd o1)
  have sz5 := x1.size
  replace G3_0 := hide (kII.fr_ext G3_0.out x1)
  replace T4 := hide (kSm.fr_ext T4.out x1)
  replace R0 := hide (kSm.rd_ext R0.out x1)
  replace R1 := hide (kSm.rd_ext R1.out x1)
  replace Pb0 := hide (Pb0.out.ext x1)
  replace Pb1 := hide (Pb1.out.ext x1)
  replace Pa4 := hide (Pa4.out.ext x1)
  replace X := hide (X.out.trans x1)
  have T5 := hide o1; clear o1 x1
  have qqb0 := (Pb0.out.alloc (.cells #[.slice Aa5 na5 ca5, .slice Aa5' na5' ca5', .slice Aa5'' na5'' ca5''] 32)).cell
  have qqb1 := (Pb1.out.alloc (.cells #[.slice Aa5 na5 ca5, .slice Aa5' na5' ca5', .slice Aa5'' na5'' ca5''] 32)).cell
  have qqa4 := (Pa4.out.alloc (.cells #[.slice Aa5 na5 ca5, .slice Aa5' na5' ca5', .slice Aa5'' na5'' ca5''] 32)).cell
  have qb0 := Pb0.out.cell
  have qb1 := Pb1.out.cell
  have qa4 := Pa4.out.cell
  go_wp2_with fail
  clear qb0 qb1 qa4
  clear qqb0 qqb1 qqa4
  obtain ⟨Wa5, hWa5⟩ : ∃ W', Hid (W' = w5.alloc (.cells #[.slice Aa5 na5 ca5, .slice Aa5' na5' ca5', .slice Aa5'' na5'' ca5''] 32)) := ⟨_, rfl⟩
  have x1 : Ext w5 Wa5 := by rw [hWa5.out]; exact Ext.alloc _ _
  replace G3_0 := hide (kII.fr_ext G3_0.out x1)
  replace T4 := hide (kSm.fr_ext T4.out x1)
  replace T5 := hide (kSm.fr_ext T5.out x1)
  replace R0 := hide (kSm.rd_ext R0.out x1)
  replace R1 := hide (kSm.rd_ext R1.out x1)
  replace Pb0 := hide (Pb0.out.ext x1)
  replace Pb1 := hide (Pb1.out.ext x1)
  replace Pa4 := hide (Pa4.out.ext x1)
  replace X := hide (X.out.trans x1)
  have Pa5 : Hid (Blk Wa5 w5.heap.size #[.slice Aa5 na5 ca5, .slice Aa5' na5' ca5', .slice Aa5'' na5'' ca5''] 32) := by rw [hWa5.out]; exact Blk.new rfl _ _
  have szPa5 := Pa5.out.lt
  rw [← hWa5.out]; clear hWa5 x1
  refine (i.ChangedCalls_law _ _ _ z0 z1 (kSm.fr_rd T4.out) ok0 (kSm.fr_rd T5.out) ok1 ).mono ?_
  rintro e w6 ⟨v6_0, rfl, o0, q0, x1⟩
  have sz6 := x1.size
  replace G3_0 := hide (kII.fr_ext G3_0.out x1)
  replace T4 := hide (kSm.fr_ext T4.out x1)
  replace T5 := hide (kSm.fr_ext T5.out x1)
  replace R0 := hide (kSm.rd_ext R0.out x1)
  replace R1 := hide (kSm.rd_ext R1.out x1)
  replace Pb0 := hide (Pb0.out.ext x1)
  replace Pb1 := hide (Pb1.out.ext x1)
  replace Pa4 := hide (Pa4.out.ext x1)
  replace Pa5 := hide (Pa5.out.ext x1)
  replace X := hide (X.out.trans x1)
  have G6_0 := hide o0; have K6_0 := hide q0; clear o0 q0
  have kc6_0 := kII.ok_cnt K6_0.out
  clear x1
  have qb0 := Pb0.out.cell
  have qb1 := Pb1.out.cell
  have qa4 := Pa4.out.cell
  have qa5 := Pa5.out.cell
  go_wp2_with fail
  clear qb0 qb1 qa4 qa5
  refine (kII.eq _ _ _ _ (kII.fr_rd G6_0.out) (kII.fr_rd G3_0.out) K3_0.out).mono ?_
  rintro e w7 ⟨rfl, x1⟩
  have sz7 := x1.size
  replace G3_0 := hide (kII.fr_ext G3_0.out x1)
  replace T4 := hide (kSm.fr_ext T4.out x1)
  replace T5 := hide (kSm.fr_ext T5.out x1)
  replace G6_0 := hide (kII.fr_ext G6_0.out x1)
  replace R0 := hide (kSm.rd_ext R0.out x1)
  replace R1 := hide (kSm.rd_ext R1.out x1)
  replace Pb0 := hide (Pb0.out.ext x1)
  replace Pb1 := hide (Pb1.out.ext x1)
  replace Pa4 := hide (Pa4.out.ext x1)
  replace Pa5 := hide (Pa5.out.ext x1)
  replace X := hide (X.out.trans x1)
  clear x1
  have qb0 := Pb0.out.cell
  have qb1 := Pb1.out.cell
  have qa4 := Pa4.out.cell
  have qa5 := Pa5.out.cell
  go_wp2_with fail
  clear qb0 qb1 qa4 qa5
  go_region_held3 (fun w' => (∀ i, w'.cell? ⟨w4.heap.size, i, none⟩ = #[Value.slice Aa4 na4 ca4, .slice Aa4' na4' ca4', .slice Aa4'' na4'' ca4''][i]?) ∧ (∀ i, w'.cell? ⟨w.heap.size, i, none⟩ = #[Value.slice Ab0 nb0 cb0, .slice Ab0' nb0' cb0', .slice Ab0'' nb0'' cb0''][i]?)) (first | exact ⟨(Pa4.out.ext Y9.out).cell, (Pb0.out.ext Y9.out).cell⟩ | exact ⟨(Pa4.out.ext Y8.out).cell, (Pb0.out.ext Y8.out).cell⟩ | exact ⟨(Pa4.out.ext (Ext.drew w7)).cell, (Pb0.out.ext (Ext.drew w7)).cell⟩)
    (first | (go_at_call 17; refine (kSm.to w7.drew _ z0 (kSm.rd_ext R0.out (Ext.drew w7)) ok0).mono ?_; rintro e w8 ⟨u8, rfl, o1, x1⟩; have T8 := hide o1; have Y8 := hide ((Ext.drew w7).trans x1); clear o1 x1) | (go_at_call 19; refine (kSm.eq w8 _ _ z0 (kSm.fr_rd (kSm.fr_ext T4.out Y8.out)) (kSm.fr_rd T8.out) ok0).mono ?_; rintro e w9 ⟨rfl, x1⟩; have Y9 := hide (Y8.out.trans x1); clear x1))
  have sz9 := Y9.out.size
  replace G3_0 := hide (kII.fr_ext G3_0.out Y9.out)
  replace T4 := hide (kSm.fr_ext T4.out Y9.out)
  replace T5 := hide (kSm.fr_ext T5.out Y9.out)
  replace G6_0 := hide (kII.fr_ext G6_0.out Y9.out)
  replace R0 := hide (kSm.rd_ext R0.out Y9.out)
  replace R1 := hide (kSm.rd_ext R1.out Y9.out)
  replace Pb0 := hide (Pb0.out.ext Y9.out)
  replace Pb1 := hide (Pb1.out.ext Y9.out)
  replace Pa4 := hide (Pa4.out.ext Y9.out)
  replace Pa5 := hide (Pa5.out.ext Y9.out)
  replace X := hide (X.out.trans Y9.out)
  clear T8 Y8 Y9
  have qb0 := Pb0.out.cell
  have qb1 := Pb1.out.cell
  have qa4 := Pa4.out.cell
  have qa5 := Pa5.out.cell
  go_wp2_with fail
  clear qb0 qb1 qa4 qa5
  go_region_held3 (fun w' => (∀ i, w'.cell? ⟨w5.heap.size, i, none⟩ = #[Value.slice Aa5 na5 ca5, .slice Aa5' na5' ca5', .slice Aa5'' na5'' ca5''][i]?) ∧ (∀ i, w'.cell? ⟨(w.heap.size + 1), i, none⟩ = #[Value.slice Ab1 nb1 cb1, .slice Ab1' nb1' cb1', .slice Ab1'' nb1'' cb1''][i]?)) (first | exact ⟨(Pa5.out.ext Y11.out).cell, (Pb1.out.ext Y11.out).cell⟩ | exact ⟨(Pa5.out.ext Y10.out).cell, (Pb1.out.ext Y10.out).cell⟩ | exact ⟨(Pa5.out.ext (Ext.drew w9)).cell, (Pb1.out.ext (Ext.drew w9)).cell⟩)
    (first | (go_at_call 17; refine (kSm.to w9.drew _ z1 (kSm.rd_ext R1.out (Ext.drew w9)) ok1).mono ?_; rintro e w10 ⟨u10, rfl, o1, x1⟩; have T10 := hide o1; have Y10 := hide ((Ext.drew w9).trans x1); clear o1 x1) | (go_at_call 19; refine (kSm.eq w10 _ _ z1 (kSm.fr_rd (kSm.fr_ext T5.out Y10.out)) (kSm.fr_rd T10.out) ok1).mono ?_; rintro e w11 ⟨rfl, x1⟩; have Y11 := hide (Y10.out.trans x1); clear x1))
  have sz11 := Y11.out.size
  replace G3_0 := hide (kII.fr_ext G3_0.out Y11.out)
  replace T4 := hide (kSm.fr_ext T4.out Y11.out)
  replace T5 := hide (kSm.fr_ext T5.out Y11.out)
  replace G6_0 := hide (kII.fr_ext G6_0.out Y11.out)
  replace R0 := hide (kSm.rd_ext R0.out Y11.out)
  replace R1 := hide (kSm.rd_ext R1.out Y11.out)
  replace Pb0 := hide (Pb0.out.ext Y11.out)
  replace Pb1 := hide (Pb1.out.ext Y11.out)
  replace Pa4 := hide (Pa4.out.ext Y11.out)
  replace Pa5 := hide (Pa5.out.ext Y11.out)
  replace X := hide (X.out.trans Y11.out)
  clear T10 Y10 Y11
  have qb0 := Pb0.out.cell
  have qb1 := Pb1.out.cell
  have qa4 := Pa4.out.cell
  have qa5 := Pa5.out.cell
  go_wp2_with fail
  clear qb0 qb1 qa4 qa5
  have kx12 := kSm.ok_cnt ok0
  refine (kSm.mark _ _ _ _ z0 _ T4.out ok0 (by omega) (by omega)).mono ?_
  rintro e w12 ⟨rfl, o1, t1⟩
  have sz12 := t1.size
  replace G3_0 := hide (kII.fr_tch G3_0.out t1 (by omega))
  replace T5 := hide (kSm.fr_tch T5.out t1 (by omega))
  replace G6_0 := hide (kII.fr_tch G6_0.out t1 (by omega))
  replace Pb0 := hide (Pb0.out.tch t1 (by omega))
  replace Pb1 := hide (Pb1.out.tch t1 (by omega))
  replace Pa4 := hide (Pa4.out.tch t1 (by omega))
  replace Pa5 := hide (Pa5.out.tch t1 (by omega))
  replace R0 := hide (kSm.rd_ext RR0.out (X.out.tch t1 (by omega)))
  replace R1 := hide (kSm.rd_ext RR1.out (X.out.tch t1 (by omega)))
  replace X := hide (X.out.tch t1 (by omega))
  have T4m := hide o1; clear o1 t1 T4
  have qb0 := Pb0.out.cell
  have qb1 := Pb1.out.cell
  have qa4 := Pa4.out.cell
  have qa5 := Pa5.out.cell
  go_wp2_with fail
  clear qb0 qb1 qa4 qa5
  have kx13 := kSm.ok_cnt ok1
  refine (kSm.mark _ _ _ _ z1 _ T5.out ok1 (by omega) (by omega)).mono ?_
  rintro e w13 ⟨rfl, o1, t1⟩
  have sz13 := t1.size
  replace G3_0 := hide (kII.fr_tch G3_0.out t1 (by omega))
  replace T4m := hide (kSm.fr_tch T4m.out t1 (by omega))
  replace G6_0 := hide (kII.fr_tch G6_0.out t1 (by omega))
  replace Pb0 := hide (Pb0.out.tch t1 (by omega))
  replace Pb1 := hide (Pb1.out.tch t1 (by omega))
  replace Pa4 := hide (Pa4.out.tch t1 (by omega))
  replace Pa5 := hide (Pa5.out.tch t1 (by omega))
  replace R0 := hide (kSm.rd_ext RR0.out (X.out.tch t1 (by omega)))
  replace R1 := hide (kSm.rd_ext RR1.out (X.out.tch t1 (by omega)))
  replace X := hide (X.out.tch t1 (by omega))
  have T5m := hide o1; clear o1 t1 T5
  have qb0 := Pb0.out.cell
  have qb1 := Pb1.out.cell
  have qa4 := Pa4.out.cell
  have qa5 := Pa5.out.cell
  go_wp2_with fail
  clear qb0 qb1 qa4 qa5
  refine (kII.eq _ _ _ _ (kII.fr_rd G6_0.out) (kII.fr_rd G3_0.out) K3_0.out).mono ?_
  rintro e w14 ⟨rfl, x1⟩
  have sz14 := x1.size
  replace G3_0 := hide (kII.fr_ext G3_0.out x1)
  replace T4m := hide (kSm.fr_ext T4m.out x1)
  replace T5m := hide (kSm.fr_ext T5m.out x1)
  replace G6_0 := hide (kII.fr_ext G6_0.out x1)
  replace R0 := hide (kSm.rd_ext R0.out x1)
  replace R1 := hide (kSm.rd_ext R1.out x1)
  replace Pb0 := hide (Pb0.out.ext x1)
  replace Pb1 := hide (Pb1.out.ext x1)
  replace Pa4 := hide (Pa4.out.ext x1)
  replace Pa5 := hide (Pa5.out.ext x1)
  replace X := hide (X.out.trans x1)
  clear x1
  have qb0 := Pb0.out.cell
  have qb1 := Pb1.out.cell
  have qa4 := Pa4.out.cell
  have qa5 := Pa5.out.cell
  go_wp2_with fail
  clear qb0 qb1 qa4 qa5
  have kx15 := kII.ok_cnt K6_0.out
  refine (kII.mark _ _ _ _ (chgF z0 z1).1 _ G6_0.out K6_0.out (by omega) (by omega)).mono ?_
  rintro e w15 ⟨rfl, o1, t1⟩
  have sz15 := t1.size
  replace G3_0 := hide (kII.fr_tch G3_0.out t1 (by omega))
  replace T4m := hide (kSm.fr_tch T4m.out t1 (by omega))
  replace T5m := hide (kSm.fr_tch T5m.out t1 (by omega))
  replace Pb0 := hide (Pb0.out.tch t1 (by omega))
  replace Pb1 := hide (Pb1.out.tch t1 (by omega))
  replace Pa4 := hide (Pa4.out.tch t1 (by omega))
  replace Pa5 := hide (Pa5.out.tch t1 (by omega))
  replace R0 := hide (kSm.rd_ext RR0.out (X.out.tch t1 (by omega)))
  replace R1 := hide (kSm.rd_ext RR1.out (X.out.tch t1 (by omega)))
  replace X := hide (X.out.tch t1 (by omega))
  have G6_0m := hide o1; clear o1 t1 G6_0
  have qb0 := Pb0.out.cell
  have qb1 := Pb1.out.cell
  have qa4 := Pa4.out.cell
  have qa5 := Pa5.out.cell
  go_wp2_with fail
  clear qb0 qb1 qa4 qa5
  refine (kII.held _ _ (chgF z0 z1).1 _ (kII.fr_rd G6_0m.out) K6_0.out (by omega) (by omega)).mono ?_
  rintro e w16 ⟨rfl, x1⟩
  have sz16 := x1.size
  replace G3_0 := hide (kII.fr_ext G3_0.out x1)
  replace T4m := hide (kSm.fr_ext T4m.out x1)
  replace T5m := hide (kSm.fr_ext T5m.out x1)
  replace G6_0m := hide (kII.fr_ext G6_0m.out x1)
  replace R0 := hide (kSm.rd_ext R0.out x1)
  replace R1 := hide (kSm.rd_ext R1.out x1)
  replace Pb0 := hide (Pb0.out.ext x1)
  replace Pb1 := hide (Pb1.out.ext x1)
  replace Pa4 := hide (Pa4.out.ext x1)
  replace Pa5 := hide (Pa5.out.ext x1)
  replace X := hide (X.out.trans x1)
  clear x1
  have qb0 := Pb0.out.cell
  have qb1 := Pb1.out.cell
  have qa4 := Pa4.out.cell
  have qa5 := Pa5.out.cell
  go_wp2_with fail
  clear qb0 qb1 qa4 qa5
  go_region_held3 (fun w' => (∀ i, w'.cell? ⟨w.heap.size, i, none⟩ = #[Value.slice Ab0 nb0 cb0, .slice Ab0' nb0' cb0', .slice Ab0'' nb0'' cb0''][i]?) ∧ (∀ i, w'.cell? ⟨(w.heap.size + 1), i, none⟩ = #[Value.slice Ab1 nb1 cb1, .slice Ab1' nb1' cb1', .slice Ab1'' nb1'' cb1''][i]?)) (first | exact ⟨(Pb0.out.ext Y19.out).cell, (Pb1.out.ext Y19.out).cell⟩ | exact ⟨(Pb0.out.ext Y18.out).cell, (Pb1.out.ext Y18.out).cell⟩ | exact ⟨(Pb0.out.ext Y17.out).cell, (Pb1.out.ext Y17.out).cell⟩ | exact ⟨(Pb0.out.ext (Ext.drew w16)).cell, (Pb1.out.ext (Ext.drew w16)).cell⟩)
    (first | (go_at_call 43; refine (i.ChangedCalls_law w18 _ _ z0 z1 (kSm.fr_rd (kSm.fr_ext T17.out Z18.out)) ok0 (kSm.fr_rd T18.out) ok1).mono ?_; rintro e w19 ⟨v19_0, rfl, o0, q0, x1⟩; have G19_0 := hide o0; have K19_0 := hide q0; have Z19 := hide x1; have Y19 := hide (Y18.out.trans x1); clear x1 o0 q0) | (go_at_call 17; refine (kSm.to w17 _ z1 (kSm.rd_ext R1.out Y17.out) ok1).mono ?_; rintro e w18 ⟨u18, rfl, o1, x1⟩; have T18 := hide o1; have Z18 := hide x1; have Y18 := hide (Y17.out.trans x1); clear o1 x1) | (go_at_call 17; refine (kSm.to w16.drew _ z0 (kSm.rd_ext R0.out (Ext.drew w16)) ok0).mono ?_; rintro e w17 ⟨u17, rfl, o1, x1⟩; have T17 := hide o1; have Z17 := hide x1; have Y17 := hide ((Ext.drew w16).trans x1); clear o1 x1))
  have sz17 := Y17.out.size
  have sz18 := Z18.out.size
  have sz19 := Z19.out.size
  replace G3_0 := hide (kII.fr_ext G3_0.out Y19.out)
  replace T4m := hide (kSm.fr_ext T4m.out Y19.out)
  replace T5m := hide (kSm.fr_ext T5m.out Y19.out)
  replace G6_0m := hide (kII.fr_ext G6_0m.out Y19.out)
  replace R0 := hide (kSm.rd_ext R0.out Y19.out)
  replace R1 := hide (kSm.rd_ext R1.out Y19.out)
  replace Pb0 := hide (Pb0.out.ext Y19.out)
  replace Pb1 := hide (Pb1.out.ext Y19.out)
  replace Pa4 := hide (Pa4.out.ext Y19.out)
  replace Pa5 := hide (Pa5.out.ext Y19.out)
  replace X := hide (X.out.trans Y19.out)
  have kc19_0 := kII.ok_cnt K19_0.out
  clear T17 Z17 Y17 T18 Z18 Y18 Z19 Y19
  have qb0 := Pb0.out.cell
  have qb1 := Pb1.out.cell
  have qa4 := Pa4.out.cell
  have qa5 := Pa5.out.cell
  go_wp2_with fail
  clear qb0 qb1 qa4 qa5
  refine (kII.eq _ _ _ _ (kII.fr_rd G19_0.out) (kII.fr_rd G3_0.out) K3_0.out).mono ?_
  rintro e w20 ⟨rfl, x1⟩
  have sz20 := x1.size
  replace G3_0 := hide (kII.fr_ext G3_0.out x1)
  replace T4m := hide (kSm.fr_ext T4m.out x1)
  replace T5m := hide (kSm.fr_ext T5m.out x1)
  replace G6_0m := hide (kII.fr_ext G6_0m.out x1)
  replace G19_0 := hide (kII.fr_ext G19_0.out x1)
  replace R0 := hide (kSm.rd_ext R0.out x1)
  replace R1 := hide (kSm.rd_ext R1.out x1)
  replace Pb0 := hide (Pb0.out.ext x1)
  replace Pb1 := hide (Pb1.out.ext x1)
  replace Pa4 := hide (Pa4.out.ext x1)
  replace Pa5 := hide (Pa5.out.ext x1)
  replace X := hide (X.out.trans x1)
  clear x1
  have qb0 := Pb0.out.cell
  have qb1 := Pb1.out.cell
  have qa4 := Pa4.out.cell
  have qa5 := Pa5.out.cell
  go_wp2_with fail
  clear qb0 qb1 qa4 qa5
  refine (kII.held _ _ (chgF z0 z1).1 _ (kII.fr_rd G6_0m.out) K6_0.out (by omega) (by omega)).mono ?_
  rintro e w21 ⟨rfl, x1⟩
  have sz21 := x1.size
  replace G3_0 := hide (kII.fr_ext G3_0.out x1)
  replace T4m := hide (kSm.fr_ext T4m.out x1)
  replace T5m := hide (kSm.fr_ext T5m.out x1)
  replace G6_0m := hide (kII.fr_ext G6_0m.out x1)
  replace G19_0 := hide (kII.fr_ext G19_0.out x1)
  replace R0 := hide (kSm.rd_ext R0.out x1)
  replace R1 := hide (kSm.rd_ext R1.out x1)
  replace Pb0 := hide (Pb0.out.ext x1)
  replace Pb1 := hide (Pb1.out.ext x1)
  replace Pa4 := hide (Pa4.out.ext x1)
  replace Pa5 := hide (Pa5.out.ext x1)
  replace X := hide (X.out.trans x1)
  clear x1
  have qb0 := Pb0.out.cell
  have qb1 := Pb1.out.cell
  have qa4 := Pa4.out.cell
  have qa5 := Pa5.out.cell
  go_wp2_with fail
  clear qb0 qb1 qa4 qa5
  go_ret
  exact ⟨rfl, X.out⟩

end Go.Proofs.Ytigfhllnfgfdoaa
