/- The walk of FnExactOrderForLate. -/
import Derived.Test.YtiohjcadmahkgaaGreatZY
import Derived.Deep.RegionHeld3
namespace Go.Proofs.YtiohjcadmahkgaaGreat
open Go.RowKit Go.Sort
set_option linter.unusedVariables false
set_option maxHeartbeats 1600000 in
set_option maxRecDepth 100000 in
theorem FnExactOrderForLate_walk (v0 : Value) (z0 : CoD) (v1 : Value) (z1 : (List ItD)) (w : World) (h0 : kC.rd w v0 z0) (h1 : kIt.rd w v1 z1) :
    Calls Tryz.prog 3 #[v0, v1] w fun e w' => e = .returned (.bool true) ∧ Ext w w' := by
  obtain ⟨Ab0, nb0, cb0, Ab0', nb0', cb0', rb0, tb0, pb0, fb0, rfl⟩ := kC.shape h0
  have R0 := hide h0; clear h0
  have R1 := hide h1; clear h1
  obtain ⟨W0, hW0⟩ : ∃ W0, Hid (W0 = (w.alloc (.cells #[.slice Ab0 nb0 cb0, .slice Ab0' nb0' cb0', .int .i64 rb0, .int .i64 tb0, .int .i64 pb0, .int .i64 fb0] 25))) := ⟨_, rfl⟩
  have X : Hid (Ext w W0) := by rw [hW0.out]; exact Ext.alloc w _
  have Pb0 : Hid (Blk W0 (w.heap.size) #[.slice Ab0 nb0 cb0, .slice Ab0' nb0' cb0', .int .i64 rb0, .int .i64 tb0, .int .i64 pb0, .int .i64 fb0] 25) := by rw [hW0.out]; exact Blk.new rfl _ _
  have szb0 := Pb0.out.lt
  have RR0 := R0
  replace R0 := hide (kC.rd_ext R0.out X.out)
  have RR1 := R1
  replace R1 := hide (kIt.rd_ext R1.out X.out)
  go_enter Tryz.func3, Tryz.ntmps3
  go_wp2_with fail
  rw [← hW0.out]; clear hW0
  refine (kC.sz _ _ z0 R0.out).mono ?_
  rintro e wz0 ⟨rfl, x1⟩
  have szz0 := x1.size
  replace R0 := hide (kC.rd_ext R0.out x1)
  replace R1 := hide (kIt.rd_ext R1.out x1)
  replace X := hide (X.out.trans x1)
  replace Pb0 := hide (Pb0.out.ext x1)
  clear x1
  by_cases big : 1048576 < kC.wt z0
  · rw [if_neg (by omega)]
    go_wp2_with fail
    go_ret
    exact ⟨rfl, X.out⟩
  have ok0 : kC.ok z0 := kC.ok_of (by omega)
  obtain ⟨m0, hm, hm00⟩ : ∃ m : Nat, Hid ((1048576 : Int) - (kC.wt z0 : Nat) = (m : Int)) ∧ m ≤ 1048576 := ⟨1048576 - kC.wt z0, by show _ = _; omega, by omega⟩
  rw [if_pos (by omega), hm.out]
  clear big hm
  have qb0 := Pb0.out.cell
  go_wp2_with fail
  clear qb0
  refine (kIt.szL _ _ z1 m0 R1.out (by omega) (by omega)).mono ?_
  rintro e wz ⟨rfl, x1⟩
  have szz1 := x1.size
  replace R0 := hide (kC.rd_ext R0.out x1)
  replace R1 := hide (kIt.rd_ext R1.out x1)
  replace X := hide (X.out.trans x1)
  replace Pb0 := hide (Pb0.out.ext x1)
  clear x1
  by_cases big : m0 < kIt.wt z1
  · rw [if_neg (by omega)]
    go_wp2_with fail
    go_ret
    exact ⟨rfl, X.out⟩
  have ok1 : kIt.ok z1 := kIt.ok_of (by omega)
  obtain ⟨m1, hm, hm10⟩ : ∃ m : Nat, Hid ((m0 : Int) - (kIt.wt z1 : Nat) = (m : Int)) ∧ m ≤ 1048576 := ⟨m0 - kIt.wt z1, by show _ = _; omega, by omega⟩
  rw [if_pos (by omega), hm.out]
  clear big hm
  have qb0 := Pb0.out.cell
  go_wp2_with fail
  clear qb0
  refine (kC.to _ _ z0 R0.out ok0).mono ?_
  rintro e w1 ⟨u1, rfl, o1, x1⟩
  obtain ⟨Aa1, na1, ca1, Aa1', na1', ca1', ra1, ta1, pa1, fa1, rfl⟩ := kC.shape (kC.fr_rd o1)
  have sz1 := x1.size
  replace R0 := hide (kC.rd_ext R0.out x1)
  replace R1 := hide (kIt.rd_ext R1.out x1)
  replace Pb0 := hide (Pb0.out.ext x1)
  replace X := hide (X.out.trans x1)
  have T1 := hide o1; clear o1 x1
  have qb0 := Pb0.out.cell
  go_wp2_with fail
  clear qb0
  refine (kIt.to _ _ z1 R1.out ok1).mono ?_
  rintro e w2 ⟨u2, rfl, o1, x1⟩
  have sz2 := x1.size
  replace T1 := hide (kC.fr_ext T1.out x1)
  replace R0 := hide (kC.rd_ext R0.out x1)
  replace R1 := hide (kIt.rd_ext R1.out x1)
  replace Pb0 := hide (Pb0.out.ext x1)
  replace X := hide (X.out.trans x1)
  have T2 := hide o1; clear o1 x1
  have qb0 := Pb0.out.cell
  go_wp2_with fail
  clear qb0
  refine (s.OrderForLate_law _ _ _ z0 z1 (kC.fr_rd T1.out) ok0 (kIt.fr_rd T2.out) ok1 ).mono ?_
  rintro e w3 ⟨v3_0, rfl, o0, q0, x1⟩
  have sz3 := x1.size
  replace R0 := hide (kC.rd_ext R0.out x1)
  replace R1 := hide (kIt.rd_ext R1.out x1)
  replace Pb0 := hide (Pb0.out.ext x1)
  replace X := hide (X.out.trans x1)
  have G3_0 := hide o0; have K3_0 := hide q0; clear o0 q0
  have kc3_0 := kIt.ok_cnt K3_0.out
  clear x1
  have qb0 := Pb0.out.cell
  go_wp2_with fail
  clear qb0
  refine (kC.to _ _ z0 R0.out ok0).mono ?_
  rintro e w4 ⟨u4, rfl, o1, x1⟩
  obtain ⟨Aa4, na4, ca4, Aa4', na4', ca4', ra4, ta4, pa4, fa4, rfl⟩ := kC.shape (kC.fr_rd o1)
  have sz4 := x1.size
  replace G3_0 := hide (kIt.fr_ext G3_0.out x1)
  replace R0 := hide (kC.rd_ext R0.out x1)
  replace R1 := hide (kIt.rd_ext R1.out x1)
  replace Pb0 := hide (Pb0.out.ext x1)
  replace X := hide (X.out.trans x1)
  have T4 := hide o1; clear o1 x1
  have qb0 := Pb0.out.cell
  go_wp2_with fail
  clear qb0
  obtain ⟨Wa4, hWa4⟩ : ∃ W', Hid (W' = w4.alloc (.cells #[.slice Aa4 na4 ca4, .slice Aa4' na4' ca4', .int .i64 ra4, .int .i64 ta4, .int .i64 pa4, .int .i64 fa4] 34)) := ⟨_, rfl⟩
  have x1 : Ext w4 Wa4 := by rw [hWa4.out]; exact Ext.alloc _ _
  replace G3_0 := hide (kIt.fr_ext G3_0.out x1)
  replace T4 := hide (kC.fr_ext T4.out x1)
  replace R0 := hide (kC.rd_ext R0.out x1)
  replace R1 := hide (kIt.rd_ext R1.out x1)
  replace Pb0 := hide (Pb0.out.ext x1)
  replace X := hide (X.out.trans x1)
  have Pa4 : Hid (Blk Wa4 w4.heap.size #[.slice Aa4 na4 ca4, .slice Aa4' na4' ca4', .int .i64 ra4, .int .i64 ta4, .int .i64 pa4, .int .i64 fa4] 34) := by rw [hWa4.out]; exact Blk.new rfl _ _
  have szPa4 := Pa4.out.lt
  rw [← hWa4.out]; clear hWa4 x1
  refine (kIt.to _ _ z1 R1.out ok1).mono ?_
  rintro e w5 ⟨u5, rfl, o1, x1⟩
  have sz5 := x1.size
  replace G3_0 := hide (kIt.fr_ext G3_0.out x1)
  replace T4 := hide (kC.fr_ext T4.out x1)
  replace R0 := hide (kC.rd_ext R0.out x1)
  replace R1 := hide (kIt.rd_ext R1.out x1)
  replace Pb0 := hide (Pb0.out.ext x1)
  replace Pa4 := hide (Pa4.out.ext x1)
  replace X := hide (X.out.trans x1)
  have T5 := hide o1; clear o1 x1
  have qb0 := Pb0.out.cell
  have qa4 := Pa4.out.cell
  go_wp2_with fail
  clear qb0 qa4
  refine (i.OrderForLate_law _ _ _ z0 z1 (kC.fr_rd T4.out) ok0 (kIt.fr_rd T5.out) ok1 ).mono ?_
  rintro e w6 ⟨v6_0, rfl, o0, q0, x1⟩
  have sz6 := x1.size
  replace G3_0 := hide (kIt.fr_ext G3_0.out x1)
  replace T4 := hide (kC.fr_ext T4.out x1)
  replace T5 := hide (kIt.fr_ext T5.out x1)
  replace R0 := hide (kC.rd_ext R0.out x1)
  replace R1 := hide (kIt.rd_ext R1.out x1)
  replace Pb0 := hide (Pb0.out.ext x1)
  replace Pa4 := hide (Pa4.out.ext x1)
  replace X := hide (X.out.trans x1)
  have G6_0 := hide o0; have K6_0 := hide q0; clear o0 q0
  have kc6_0 := kIt.ok_cnt K6_0.out
  clear x1
  have qb0 := Pb0.out.cell
  have qa4 := Pa4.out.cell
  go_wp2_with fail
  clear qb0 qa4
  refine (kIt.eq _ _ _ _ (kIt.fr_rd G6_0.out) (kIt.fr_rd G3_0.out) K3_0.out).mono ?_
  rintro e w7 ⟨rfl, x1⟩
  have sz7 := x1.size
  replace G3_0 := hide (kIt.fr_ext G3_0.out x1)
  replace T4 := hide (kC.fr_ext T4.out x1)
  replace T5 := hide (kIt.fr_ext T5.out x1)
  replace G6_0 := hide (kIt.fr_ext G6_0.out x1)
  replace R0 := hide (kC.rd_ext R0.out x1)
  replace R1 := hide (kIt.rd_ext R1.out x1)
  replace Pb0 := hide (Pb0.out.ext x1)
  replace Pa4 := hide (Pa4.out.ext x1)
  replace X := hide (X.out.trans x1)
  clear x1
  have qb0 := Pb0.out.cell
  have qa4 := Pa4.out.cell
  go_wp2_with fail
  clear qb0 qa4
  go_region_held3 (fun w' => (∀ i, w'.cell? ⟨w4.heap.size, i, none⟩ = #[Value.slice Aa4 na4 ca4, .slice Aa4' na4' ca4', .int .i64 ra4, .int .i64 ta4, .int .i64 pa4, .int .i64 fa4][i]?) ∧ (∀ i, w'.cell? ⟨w.heap.size, i, none⟩ = #[Value.slice Ab0 nb0 cb0, .slice Ab0' nb0' cb0', .int .i64 rb0, .int .i64 tb0, .int .i64 pb0, .int .i64 fb0][i]?)) (first | exact ⟨(Pa4.out.ext Y9.out).cell, (Pb0.out.ext Y9.out).cell⟩ | exact ⟨(Pa4.out.ext Y8.out).cell, (Pb0.out.ext Y8.out).cell⟩ | exact ⟨(Pa4.out.ext (Ext.drew w7)).cell, (Pb0.out.ext (Ext.drew w7)).cell⟩)
    (first | (go_at_call 7; refine (kC.to w7.drew _ z0 (kC.rd_ext R0.out (Ext.drew w7)) ok0).mono ?_; rintro e w8 ⟨u8, rfl, o1, x1⟩; have T8 := hide o1; have Y8 := hide ((Ext.drew w7).trans x1); clear o1 x1) | (go_at_call 11; refine (kC.eq w8 _ _ z0 (kC.fr_rd (kC.fr_ext T4.out Y8.out)) (kC.fr_rd T8.out) ok0).mono ?_; rintro e w9 ⟨rfl, x1⟩; have Y9 := hide (Y8.out.trans x1); clear x1))
  have sz9 := Y9.out.size
  replace G3_0 := hide (kIt.fr_ext G3_0.out Y9.out)
  replace T4 := hide (kC.fr_ext T4.out Y9.out)
  replace T5 := hide (kIt.fr_ext T5.out Y9.out)
  replace G6_0 := hide (kIt.fr_ext G6_0.out Y9.out)
  replace R0 := hide (kC.rd_ext R0.out Y9.out)
  replace R1 := hide (kIt.rd_ext R1.out Y9.out)
  replace Pb0 := hide (Pb0.out.ext Y9.out)
  replace Pa4 := hide (Pa4.out.ext Y9.out)
  replace X := hide (X.out.trans Y9.out)
  clear T8 Y8 Y9
  have qb0 := Pb0.out.cell
  have qa4 := Pa4.out.cell
  go_wp2_with fail
  clear qb0 qa4
  refine (kIt.to _ _ z1 R1.out ok1).mono ?_
  rintro e w10 ⟨u10, rfl, o1, x1⟩
  have sz10 := x1.size
  replace G3_0 := hide (kIt.fr_ext G3_0.out x1)
  replace T4 := hide (kC.fr_ext T4.out x1)
  replace T5 := hide (kIt.fr_ext T5.out x1)
  replace G6_0 := hide (kIt.fr_ext G6_0.out x1)
  replace R0 := hide (kC.rd_ext R0.out x1)
  replace R1 := hide (kIt.rd_ext R1.out x1)
  replace Pb0 := hide (Pb0.out.ext x1)
  replace Pa4 := hide (Pa4.out.ext x1)
  replace X := hide (X.out.trans x1)
  have T10 := hide o1; clear o1 x1
  have qb0 := Pb0.out.cell
  have qa4 := Pa4.out.cell
  go_wp2_with fail
  clear qb0 qa4
  refine (kIt.eq _ _ _ _ (kIt.fr_rd T5.out) (kIt.fr_rd T10.out) ok1).mono ?_
  rintro e w11 ⟨rfl, x1⟩
  have sz11 := x1.size
  clear T10
  replace G3_0 := hide (kIt.fr_ext G3_0.out x1)
  replace T4 := hide (kC.fr_ext T4.out x1)
  replace T5 := hide (kIt.fr_ext T5.out x1)
  replace G6_0 := hide (kIt.fr_ext G6_0.out x1)
  replace R0 := hide (kC.rd_ext R0.out x1)
  replace R1 := hide (kIt.rd_ext R1.out x1)
  replace Pb0 := hide (Pb0.out.ext x1)
  replace Pa4 := hide (Pa4.out.ext x1)
  replace X := hide (X.out.trans x1)
  clear x1
  have qb0 := Pb0.out.cell
  have qa4 := Pa4.out.cell
  go_wp2_with fail
  clear qb0 qa4
  have kx12 := kC.ok_cnt ok0
  refine (kC.mark _ _ _ _ z0 _ T4.out ok0 (by omega) (by omega)).mono ?_
  rintro e w12 ⟨rfl, o1, t1⟩
  have sz12 := t1.size
  replace G3_0 := hide (kIt.fr_tch G3_0.out t1 (by omega))
  replace T5 := hide (kIt.fr_tch T5.out t1 (by omega))
  replace G6_0 := hide (kIt.fr_tch G6_0.out t1 (by omega))
  replace Pb0 := hide (Pb0.out.tch t1 (by omega))
  replace Pa4 := hide (Pa4.out.tch t1 (by omega))
  replace R0 := hide (kC.rd_ext RR0.out (X.out.tch t1 (by omega)))
  replace R1 := hide (kIt.rd_ext RR1.out (X.out.tch t1 (by omega)))
  replace X := hide (X.out.tch t1 (by omega))
  have T4m := hide o1; clear o1 t1 T4
  have qb0 := Pb0.out.cell
  have qa4 := Pa4.out.cell
  go_wp2_with fail
  clear qb0 qa4
  have kx13 := kIt.ok_cnt ok1
  refine (kIt.mark _ _ _ _ z1 _ T5.out ok1 (by omega) (by omega)).mono ?_
  rintro e w13 ⟨rfl, o1, t1⟩
  have sz13 := t1.size
  replace G3_0 := hide (kIt.fr_tch G3_0.out t1 (by omega))
  replace T4m := hide (kC.fr_tch T4m.out t1 (by omega))
  replace G6_0 := hide (kIt.fr_tch G6_0.out t1 (by omega))
  replace Pb0 := hide (Pb0.out.tch t1 (by omega))
  replace Pa4 := hide (Pa4.out.tch t1 (by omega))
  replace R0 := hide (kC.rd_ext RR0.out (X.out.tch t1 (by omega)))
  replace R1 := hide (kIt.rd_ext RR1.out (X.out.tch t1 (by omega)))
  replace X := hide (X.out.tch t1 (by omega))
  have T5m := hide o1; clear o1 t1 T5
  have qb0 := Pb0.out.cell
  have qa4 := Pa4.out.cell
  go_wp2_with fail
  clear qb0 qa4
  refine (kIt.eq _ _ _ _ (kIt.fr_rd G6_0.out) (kIt.fr_rd G3_0.out) K3_0.out).mono ?_
  rintro e w14 ⟨rfl, x1⟩
  have sz14 := x1.size
  replace G3_0 := hide (kIt.fr_ext G3_0.out x1)
  replace T4m := hide (kC.fr_ext T4m.out x1)
  replace T5m := hide (kIt.fr_ext T5m.out x1)
  replace G6_0 := hide (kIt.fr_ext G6_0.out x1)
  replace R0 := hide (kC.rd_ext R0.out x1)
  replace R1 := hide (kIt.rd_ext R1.out x1)
  replace Pb0 := hide (Pb0.out.ext x1)
  replace Pa4 := hide (Pa4.out.ext x1)
  replace X := hide (X.out.trans x1)
  clear x1
  have qb0 := Pb0.out.cell
  have qa4 := Pa4.out.cell
  go_wp2_with fail
  clear qb0 qa4
  have kx15 := kIt.ok_cnt K6_0.out
  refine (kIt.mark _ _ _ _ (orderF z0 z1).1 _ G6_0.out K6_0.out (by omega) (by omega)).mono ?_
  rintro e w15 ⟨rfl, o1, t1⟩
  have sz15 := t1.size
  replace G3_0 := hide (kIt.fr_tch G3_0.out t1 (by omega))
  replace T4m := hide (kC.fr_tch T4m.out t1 (by omega))
  replace T5m := hide (kIt.fr_tch T5m.out t1 (by omega))
  replace Pb0 := hide (Pb0.out.tch t1 (by omega))
  replace Pa4 := hide (Pa4.out.tch t1 (by omega))
  replace R0 := hide (kC.rd_ext RR0.out (X.out.tch t1 (by omega)))
  replace R1 := hide (kIt.rd_ext RR1.out (X.out.tch t1 (by omega)))
  replace X := hide (X.out.tch t1 (by omega))
  have G6_0m := hide o1; clear o1 t1 G6_0
  have qb0 := Pb0.out.cell
  have qa4 := Pa4.out.cell
  go_wp2_with fail
  clear qb0 qa4
  refine (kIt.held _ _ (orderF z0 z1).1 _ (kIt.fr_rd G6_0m.out) K6_0.out (by omega) (by omega)).mono ?_
  rintro e w16 ⟨rfl, x1⟩
  have sz16 := x1.size
  replace G3_0 := hide (kIt.fr_ext G3_0.out x1)
  replace T4m := hide (kC.fr_ext T4m.out x1)
  replace T5m := hide (kIt.fr_ext T5m.out x1)
  replace G6_0m := hide (kIt.fr_ext G6_0m.out x1)
  replace R0 := hide (kC.rd_ext R0.out x1)
  replace R1 := hide (kIt.rd_ext R1.out x1)
  replace Pb0 := hide (Pb0.out.ext x1)
  replace Pa4 := hide (Pa4.out.ext x1)
  replace X := hide (X.out.trans x1)
  clear x1
  have qb0 := Pb0.out.cell
  have qa4 := Pa4.out.cell
  go_wp2_with fail
  clear qb0 qa4
  refine (kC.to _ _ z0 R0.out ok0).mono ?_
  rintro e w17 ⟨u17, rfl, o1, x1⟩
  obtain ⟨Aa17, na17, ca17, Aa17', na17', ca17', ra17, ta17, pa17, fa17, rfl⟩ := kC.shape (kC.fr_rd o1)
  have sz17 := x1.size
  replace G3_0 := hide (kIt.fr_ext G3_0.out x1)
  replace T4m := hide (kC.fr_ext T4m.out x1)
  replace T5m := hide (kIt.fr_ext T5m.out x1)
  replace G6_0m := hide (kIt.fr_ext G6_0m.out x1)
  replace R0 := hide (kC.rd_ext R0.out x1)
  replace R1 := hide (kIt.rd_ext R1.out x1)
  replace Pb0 := hide (Pb0.out.ext x1)
  replace Pa4 := hide (Pa4.out.ext x1)
  replace X := hide (X.out.trans x1)
  have T17 := hide o1; clear o1 x1
  have qb0 := Pb0.out.cell
  have qa4 := Pa4.out.cell
  go_wp2_with fail
  clear qb0 qa4
  refine (kIt.to _ _ z1 R1.out ok1).mono ?_
  rintro e w18 ⟨u18, rfl, o1, x1⟩
  have sz18 := x1.size
  replace G3_0 := hide (kIt.fr_ext G3_0.out x1)
  replace T4m := hide (kC.fr_ext T4m.out x1)
  replace T5m := hide (kIt.fr_ext T5m.out x1)
  replace G6_0m := hide (kIt.fr_ext G6_0m.out x1)
  replace T17 := hide (kC.fr_ext T17.out x1)
  replace R0 := hide (kC.rd_ext R0.out x1)
  replace R1 := hide (kIt.rd_ext R1.out x1)
  replace Pb0 := hide (Pb0.out.ext x1)
  replace Pa4 := hide (Pa4.out.ext x1)
  replace X := hide (X.out.trans x1)
  have T18 := hide o1; clear o1 x1
  have qb0 := Pb0.out.cell
  have qa4 := Pa4.out.cell
  go_wp2_with fail
  clear qb0 qa4
  refine (i.OrderForLate_law _ _ _ z0 z1 (kC.fr_rd T17.out) ok0 (kIt.fr_rd T18.out) ok1 ).mono ?_
  rintro e w19 ⟨v19_0, rfl, o0, q0, x1⟩
  have sz19 := x1.size
  replace G3_0 := hide (kIt.fr_ext G3_0.out x1)
  replace T4m := hide (kC.fr_ext T4m.out x1)
  replace T5m := hide (kIt.fr_ext T5m.out x1)
  replace G6_0m := hide (kIt.fr_ext G6_0m.out x1)
  replace R0 := hide (kC.rd_ext R0.out x1)
  replace R1 := hide (kIt.rd_ext R1.out x1)
  replace Pb0 := hide (Pb0.out.ext x1)
  replace Pa4 := hide (Pa4.out.ext x1)
  replace X := hide (X.out.trans x1)
  have G19_0 := hide o0; have K19_0 := hide q0; clear o0 q0
  have kc19_0 := kIt.ok_cnt K19_0.out
  clear x1
  have qb0 := Pb0.out.cell
  have qa4 := Pa4.out.cell
  go_wp2_with fail
  clear qb0 qa4
  refine (kIt.eq _ _ _ _ (kIt.fr_rd G19_0.out) (kIt.fr_rd G3_0.out) K3_0.out).mono ?_
  rintro e w20 ⟨rfl, x1⟩
  have sz20 := x1.size
  replace G3_0 := hide (kIt.fr_ext G3_0.out x1)
  replace T4m := hide (kC.fr_ext T4m.out x1)
  replace T5m := hide (kIt.fr_ext T5m.out x1)
  replace G6_0m := hide (kIt.fr_ext G6_0m.out x1)
  replace G19_0 := hide (kIt.fr_ext G19_0.out x1)
  replace R0 := hide (kC.rd_ext R0.out x1)
  replace R1 := hide (kIt.rd_ext R1.out x1)
  replace Pb0 := hide (Pb0.out.ext x1)
  replace Pa4 := hide (Pa4.out.ext x1)
  replace X := hide (X.out.trans x1)
  clear x1
  have qb0 := Pb0.out.cell
  have qa4 := Pa4.out.cell
  go_wp2_with fail
  clear qb0 qa4
  refine (kIt.held _ _ (orderF z0 z1).1 _ (kIt.fr_rd G6_0m.out) K6_0.out (by omega) (by omega)).mono ?_
  rintro e w21 ⟨rfl, x1⟩
  have sz21 := x1.size
  replace G3_0 := hide (kIt.fr_ext G3_0.out x1)
  replace T4m := hide (kC.fr_ext T4m.out x1)
  replace T5m := hide (kIt.fr_ext T5m.out x1)
  replace G6_0m := hide (kIt.fr_ext G6_0m.out x1)
  replace G19_0 := hide (kIt.fr_ext G19_0.out x1)
  replace R0 := hide (kC.rd_ext R0.out x1)
  replace R1 := hide (kIt.rd_ext R1.out x1)
  replace Pb0 := hide (Pb0.out.ext x1)
  replace Pa4 := hide (Pa4.out.ext x1)
  replace X := hide (X.out.trans x1)
  clear x1
  have qb0 := Pb0.out.cell
  have qa4 := Pa4.out.cell
  go_wp2_with fail
  clear qb0 qa4
  go_ret
  exact ⟨rfl, X.out⟩

end Go.Proofs.YtiohjcadmahkgaaGreat
