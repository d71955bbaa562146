/- The walk of FnExactAddJudge. -/
import Derived.Test.YtifbokcenbchnaaMQ
import Derived.Deep.RegionHeld3
namespace Go.Proofs.Ytifbokcenbchnaa
open Go.RowKit Go.Sort
set_option linter.unusedVariables false
set_option maxHeartbeats 1600000 in
set_option maxRecDepth 100000 in
theorem FnExactAddJudge_walk (v0 : Value) (z0 : MD) (a1 : Option Addr) (n1 c1 : Nat) (z1 : List Int) (a2 : Option Addr) (n2 c2 : Nat) (z2 : List Int) (w : World) (h0 : kM.rd w v0 z0) (h1 : ArgI w a1 n1 c1 z1) (h2 : ArgI w a2 n2 c2 z2) :
    Calls Try.prog 12 #[v0, .slice a1 n1 c1, .slice a2 n2 c2] w fun e w' => e = .returned (.bool true) ∧ Ext w w' := by
  obtain ⟨Ab0, nb0, cb0, Ab0', nb0', cb0', rfl⟩ := kM.shape h0
  have R0 := hide h0; clear h0
  by_cases big1 : 1048576 < n1
  · have q1 := h1.cap; have q2 := h1.capm
    go_enter Try.func12, Try.ntmps12
    go_wp2
    go_ret
    exact ⟨rfl, Ext.alloc _ _⟩
  by_cases big2 : 1048576 < n2
  · have q1 := h2.cap; have q2 := h2.capm
    have r11 := h1.cap; have r21 := h1.capm
    go_enter Try.func12, Try.ntmps12
    go_wp2
    go_ret
    exact ⟨rfl, Ext.alloc _ _⟩
  have ok1 : kI.ok z1 := (by have := h1.sl.len; show z1.length ≤ 1048576; omega)
  have hl1 := h1.sl.len; subst hl1
  have R1 := hide (show kI.rd w (.slice a1 z1.length c1) z1 from ⟨a1, c1, rfl, h1.sl, h1.cap, h1.capm⟩)
  have bq1 : z1.length ≤ 1048576 := ok1
  clear big1 h1
  have ok2 : kI.ok z2 := (by have := h2.sl.len; show z2.length ≤ 1048576; omega)
  have hl2 := h2.sl.len; subst hl2
  have R2 := hide (show kI.rd w (.slice a2 z2.length c2) z2 from ⟨a2, c2, rfl, h2.sl, h2.cap, h2.capm⟩)
  have bq2 : z2.length ≤ 1048576 := ok2
  clear big2 h2
  obtain ⟨W0, hW0⟩ : ∃ W0, Hid (W0 = (w.alloc (.cells #[.slice Ab0 nb0 cb0, .slice Ab0' nb0' cb0'] 24))) := ⟨_, rfl⟩
  have X : Hid (Ext w W0) := by rw [hW0.out]; exact Ext.alloc w _
  have Pb0 : Hid (Blk W0 w.heap.size #[.slice Ab0 nb0 cb0, .slice Ab0' nb0' cb0'] 24) := by rw [hW0.out]; exact Blk.new rfl _ _
  have szb := Pb0.out.lt
  have RR0 := R0
  replace R0 := hide (kM.rd_ext R0.out X.out)
  have RR1 := R1
  replace R1 := hide (kI.rd_ext R1.out X.out)
  have RR2 := R2
  replace R2 := hide (kI.rd_ext R2.out X.out)
  go_enter Try.func12, Try.ntmps12
  go_wp2_with fail
  rw [← hW0.out]; clear hW0
  refine (kM.sz _ _ z0 R0.out).mono ?_
  rintro e wz ⟨rfl, x1⟩
  have szz := x1.size
  replace R0 := hide (kM.rd_ext R0.out x1)
  replace R1 := hide (kI.rd_ext R1.out x1)
  replace R2 := hide (kI.rd_ext R2.out x1)
  replace X := hide (X.out.trans x1)
  replace Pb0 := hide (Pb0.out.ext x1)
  clear x1
  by_cases big : 1048576 < kM.wt z0
  · rw [if_neg (by omega)]
    go_wp2_with fail
    go_ret
    exact ⟨rfl, X.out⟩
  have ok0 : kM.ok z0 := kM.ok_of big
  obtain ⟨m, hm, hm0⟩ : ∃ m : Nat, Hid ((1048576 : Int) - (kM.wt z0 : Nat) = (m : Int)) ∧ m ≤ 1048576 := ⟨1048576 - kM.wt z0, by show _ = _; omega, by omega⟩
  rw [if_pos (by omega), hm.out]
  clear big hm
  have qb0 := Pb0.out.cell
  go_wp2_with fail
  clear qb0
  refine (kM.to _ _ z0 R0.out ok0).mono ?_
  rintro e w1 ⟨u1, rfl, o1, x1⟩
  obtain ⟨Aa1, na1, ca1, Aa1', na1', ca1', rfl⟩ := kM.shape (kM.fr_rd o1)
  have sz1 := x1.size
  replace R0 := hide (kM.rd_ext R0.out x1)
  replace R1 := hide (kI.rd_ext R1.out x1)
  replace R2 := hide (kI.rd_ext R2.out x1)
  replace Pb0 := hide (Pb0.out.ext x1)
  replace X := hide (X.out.trans x1)
  have T1 := hide o1; clear o1 x1
  have qb0 := Pb0.out.cell
  go_wp2_with fail
  clear qb0
  refine (kI.to _ _ z1 R1.out ok1).mono ?_
  rintro e w2 ⟨u2, rfl, o1, x1⟩
  have sz2 := x1.size
  replace T1 := hide (kM.fr_ext T1.out x1)
  replace R0 := hide (kM.rd_ext R0.out x1)
  replace R1 := hide (kI.rd_ext R1.out x1)
  replace R2 := hide (kI.rd_ext R2.out x1)
  replace Pb0 := hide (Pb0.out.ext x1)
  replace X := hide (X.out.trans x1)
  have T2 := hide o1; clear o1 x1
  have qb0 := Pb0.out.cell
  go_wp2_with fail
  clear qb0
  refine (kI.to _ _ z2 R2.out ok2).mono ?_
  rintro e w3 ⟨u3, rfl, o1, x1⟩
  have sz3 := x1.size
  replace T1 := hide (kM.fr_ext T1.out x1)
  replace T2 := hide (kI.fr_ext T2.out x1)
  replace R0 := hide (kM.rd_ext R0.out x1)
  replace R1 := hide (kI.rd_ext R1.out x1)
  replace R2 := hide (kI.rd_ext R2.out x1)
  replace Pb0 := hide (Pb0.out.ext x1)
  replace X := hide (X.out.trans x1)
  have T3 := hide o1; clear o1 x1
  have qb0 := Pb0.out.cell
  go_wp2_with fail
  clear qb0
  refine (s.AddJudge_law _ _ _ _ z0 z1 z2 (kM.fr_rd T1.out) ok0 (kI.fr_rd T2.out) ok1 (kI.fr_rd T3.out) ok2 ).mono ?_
  rintro e w4 ⟨v4_0, rfl, o0, q0, x1⟩
  obtain ⟨As4_0, ns4_0, cs4_0, As4_0', ns4_0', cs4_0', rfl⟩ := kM.shape (kM.fr_rd o0)
  have sz4 := x1.size
  replace R0 := hide (kM.rd_ext R0.out x1)
  replace R1 := hide (kI.rd_ext R1.out x1)
  replace R2 := hide (kI.rd_ext R2.out x1)
  replace Pb0 := hide (Pb0.out.ext x1)
  replace X := hide (X.out.trans x1)
  have G4_0 := hide o0; have K4_0 := hide q0; clear o0 q0
  have kc4_0 := kM.ok_cnt K4_0.out
  clear x1
  have qqb0 := (Pb0.out.alloc (.cells #[.slice As4_0 ns4_0 cs4_0, .slice As4_0' ns4_0' cs4_0'] 27)).cell
  have qb0 := Pb0.out.cell
  go_wp2_with fail
  clear qb0
  clear qqb0
  obtain ⟨Ws4_0, hWs4_0⟩ : ∃ W', Hid (W' = w4.alloc (.cells #[.slice As4_0 ns4_0 cs4_0, .slice As4_0' ns4_0' cs4_0'] 27)) := ⟨_, rfl⟩
  have x1 : Ext w4 Ws4_0 := by rw [hWs4_0.out]; exact Ext.alloc _ _
  replace G4_0 := hide (kM.fr_ext G4_0.out x1)
  replace R0 := hide (kM.rd_ext R0.out x1)
  replace R1 := hide (kI.rd_ext R1.out x1)
  replace R2 := hide (kI.rd_ext R2.out x1)
  replace Pb0 := hide (Pb0.out.ext x1)
  replace X := hide (X.out.trans x1)
  have Ps4_0 : Hid (Blk Ws4_0 w4.heap.size #[.slice As4_0 ns4_0 cs4_0, .slice As4_0' ns4_0' cs4_0'] 27) := by rw [hWs4_0.out]; exact Blk.new rfl _ _
  have szPs4_0 := Ps4_0.out.lt
  rw [← hWs4_0.out]; clear hWs4_0 x1
  refine (kM.to _ _ z0 R0.out ok0).mono ?_
  rintro e w5 ⟨u5, rfl, o1, x1⟩
  obtain ⟨Aa5, na5, ca5, Aa5', na5', ca5', rfl⟩ := kM.shape (kM.fr_rd o1)
  have sz5 := x1.size
  replace G4_0 := hide (kM.fr_ext G4_0.out x1)
  replace R0 := hide (kM.rd_ext R0.out x1)
  replace R1 := hide (kI.rd_ext R1.out x1)
  replace R2 := hide (kI.rd_ext R2.out x1)
  replace Pb0 := hide (Pb0.out.ext x1)
  replace Ps4_0 := hide (Ps4_0.out.ext x1)
  replace X := hide (X.out.trans x1)
  have T5 := hide o1; clear o1 x1
  have qb0 := Pb0.out.cell
  have qs4_0 := Ps4_0.out.cell
  go_wp2_with fail
  clear qb0 qs4_0
  obtain ⟨Wa5, hWa5⟩ : ∃ W', Hid (W' = w5.alloc (.cells #[.slice Aa5 na5 ca5, .slice Aa5' na5' ca5'] 27)) := ⟨_, rfl⟩
  have x1 : Ext w5 Wa5 := by rw [hWa5.out]; exact Ext.alloc _ _
  replace G4_0 := hide (kM.fr_ext G4_0.out x1)
  replace T5 := hide (kM.fr_ext T5.out x1)
  replace R0 := hide (kM.rd_ext R0.out x1)
  replace R1 := hide (kI.rd_ext R1.out x1)
  replace R2 := hide (kI.rd_ext R2.out x1)
  replace Pb0 := hide (Pb0.out.ext x1)
  replace Ps4_0 := hide (Ps4_0.out.ext x1)
  replace X := hide (X.out.trans x1)
  have Pa5 : Hid (Blk Wa5 w5.heap.size #[.slice Aa5 na5 ca5, .slice Aa5' na5' ca5'] 27) := by rw [hWa5.out]; exact Blk.new rfl _ _
  have szPa5 := Pa5.out.lt
  rw [← hWa5.out]; clear hWa5 x1
  refine (kI.to _ _ z1 R1.out ok1).mono ?_
  rintro e w6 ⟨u6, rfl, o1, x1⟩
  have sz6 := x1.size
  replace G4_0 := hide (kM.fr_ext G4_0.out x1)
  replace T5 := hide (kM.fr_ext T5.out x1)
  replace R0 := hide (kM.rd_ext R0.out x1)
  replace R1 := hide (kI.rd_ext R1.out x1)
  replace R2 := hide (kI.rd_ext R2.out x1)
  replace Pb0 := hide (Pb0.out.ext x1)
  replace Ps4_0 := hide (Ps4_0.out.ext x1)
  replace Pa5 := hide (Pa5.out.ext x1)
  replace X := hide (X.out.trans x1)
  have T6 := hide o1; clear o1 x1
  have qb0 := Pb0.out.cell
  have qs4_0 := Ps4_0.out.cell
  have qa5 := Pa5.out.cell
  go_wp2_with fail
  clear qb0 qs4_0 qa5
  refine (kI.to _ _ z2 R2.out ok2).mono ?_
  rintro e w7 ⟨u7, rfl, o1, x1⟩
  have sz7 := x1.size
  replace G4_0 := hide (kM.fr_ext G4_0.out x1)
  replace T5 := hide (kM.fr_ext T5.out x1)
  replace T6 := hide (kI.fr_ext T6.out x1)
  replace R0 := hide (kM.rd_ext R0.out x1)
  replace R1 := hide (kI.rd_ext R1.out x1)
  replace R2 := hide (kI.rd_ext R2.out x1)
  replace Pb0 := hide (Pb0.out.ext x1)
  replace Ps4_0 := hide (Ps4_0.out.ext x1)
  replace Pa5 := hide (Pa5.out.ext x1)
  replace X := hide (X.out.trans x1)
  have T7 := hide o1; clear o1 x1
  have qb0 := Pb0.out.cell
  have qs4_0 := Ps4_0.out.cell
  have qa5 := Pa5.out.cell
  go_wp2_with fail
  clear qb0 qs4_0 qa5
  refine (i.AddJudge_law _ _ _ _ z0 z1 z2 (kM.fr_rd T5.out) ok0 (kI.fr_rd T6.out) ok1 (kI.fr_rd T7.out) ok2 ).mono ?_
  rintro e w8 ⟨v8_0, rfl, o0, q0, x1⟩
  obtain ⟨As8_0, ns8_0, cs8_0, As8_0', ns8_0', cs8_0', rfl⟩ := kM.shape (kM.fr_rd o0)
  have sz8 := x1.size
  replace G4_0 := hide (kM.fr_ext G4_0.out x1)
  replace T5 := hide (kM.fr_ext T5.out x1)
  replace T6 := hide (kI.fr_ext T6.out x1)
  replace T7 := hide (kI.fr_ext T7.out x1)
  replace R0 := hide (kM.rd_ext R0.out x1)
  replace R1 := hide (kI.rd_ext R1.out x1)
  replace R2 := hide (kI.rd_ext R2.out x1)
  replace Pb0 := hide (Pb0.out.ext x1)
  replace Ps4_0 := hide (Ps4_0.out.ext x1)
  replace Pa5 := hide (Pa5.out.ext x1)
  replace X := hide (X.out.trans x1)
  have G8_0 := hide o0; have K8_0 := hide q0; clear o0 q0
  have kc8_0 := kM.ok_cnt K8_0.out
  clear x1
  have qqb0 := (Pb0.out.alloc (.cells #[.slice As8_0 ns8_0 cs8_0, .slice As8_0' ns8_0' cs8_0'] 27)).cell
  have qqs4_0 := (Ps4_0.out.alloc (.cells #[.slice As8_0 ns8_0 cs8_0, .slice As8_0' ns8_0' cs8_0'] 27)).cell
  have qqa5 := (Pa5.out.alloc (.cells #[.slice As8_0 ns8_0 cs8_0, .slice As8_0' ns8_0' cs8_0'] 27)).cell
  have qb0 := Pb0.out.cell
  have qs4_0 := Ps4_0.out.cell
  have qa5 := Pa5.out.cell
  go_wp2_with fail
  clear qb0 qs4_0 qa5
  clear qqb0 qqs4_0 qqa5
  obtain ⟨Ws8_0, hWs8_0⟩ : ∃ W', Hid (W' = w8.alloc (.cells #[.slice As8_0 ns8_0 cs8_0, .slice As8_0' ns8_0' cs8_0'] 27)) := ⟨_, rfl⟩
  have x1 : Ext w8 Ws8_0 := by rw [hWs8_0.out]; exact Ext.alloc _ _
  replace G4_0 := hide (kM.fr_ext G4_0.out x1)
  replace T5 := hide (kM.fr_ext T5.out x1)
  replace T6 := hide (kI.fr_ext T6.out x1)
  replace T7 := hide (kI.fr_ext T7.out x1)
  replace G8_0 := hide (kM.fr_ext G8_0.out x1)
  replace R0 := hide (kM.rd_ext R0.out x1)
  replace R1 := hide (kI.rd_ext R1.out x1)
  replace R2 := hide (kI.rd_ext R2.out x1)
  replace Pb0 := hide (Pb0.out.ext x1)
  replace Ps4_0 := hide (Ps4_0.out.ext x1)
  replace Pa5 := hide (Pa5.out.ext x1)
  replace X := hide (X.out.trans x1)
  have Ps8_0 : Hid (Blk Ws8_0 w8.heap.size #[.slice As8_0 ns8_0 cs8_0, .slice As8_0' ns8_0' cs8_0'] 27) := by rw [hWs8_0.out]; exact Blk.new rfl _ _
  have szPs8_0 := Ps8_0.out.lt
  rw [← hWs8_0.out]; clear hWs8_0 x1
  refine (kM.eq _ _ _ _ (kM.fr_rd G8_0.out) (kM.fr_rd G4_0.out) K4_0.out).mono ?_
  rintro e w9 ⟨rfl, x1⟩
  have sz9 := x1.size
  replace G4_0 := hide (kM.fr_ext G4_0.out x1)
  replace T5 := hide (kM.fr_ext T5.out x1)
  replace T6 := hide (kI.fr_ext T6.out x1)
  replace T7 := hide (kI.fr_ext T7.out x1)
  replace G8_0 := hide (kM.fr_ext G8_0.out x1)
  replace R0 := hide (kM.rd_ext R0.out x1)
  replace R1 := hide (kI.rd_ext R1.out x1)
  replace R2 := hide (kI.rd_ext R2.out x1)
  replace Pb0 := hide (Pb0.out.ext x1)
  replace Ps4_0 := hide (Ps4_0.out.ext x1)
  replace Pa5 := hide (Pa5.out.ext x1)
  replace Ps8_0 := hide (Ps8_0.out.ext x1)
  replace X := hide (X.out.trans x1)
  clear x1
  have qb0 := Pb0.out.cell
  have qs4_0 := Ps4_0.out.cell
  have qa5 := Pa5.out.cell
  have qs8_0 := Ps8_0.out.cell
  go_wp2_with fail
  clear qb0 qs4_0 qa5 qs8_0
  go_region_held3 (fun w' => (∀ i, w'.cell? ⟨w5.heap.size, i, none⟩ = #[Value.slice Aa5 na5 ca5, .slice Aa5' na5' ca5'][i]?) ∧ (∀ i, w'.cell? ⟨w.heap.size, i, none⟩ = #[Value.slice Ab0 nb0 cb0, .slice Ab0' nb0' cb0'][i]?)) (first | exact ⟨(Pa5.out.ext Y11.out).cell, (Pb0.out.ext Y11.out).cell⟩ | exact ⟨(Pa5.out.ext Y10.out).cell, (Pb0.out.ext Y10.out).cell⟩ | exact ⟨(Pa5.out.ext (Ext.drew w9)).cell, (Pb0.out.ext (Ext.drew w9)).cell⟩)
    (first | (go_at_call 17; refine (kM.to w9.drew _ z0 (kM.rd_ext R0.out (Ext.drew w9)) ok0).mono ?_; rintro e w10 ⟨u10, rfl, o1, x1⟩; have T10 := hide o1; have Y10 := hide ((Ext.drew w9).trans x1); clear o1 x1) | (go_at_call 19; refine (kM.eq w10 _ _ z0 (kM.fr_rd (kM.fr_ext T5.out Y10.out)) (kM.fr_rd T10.out) ok0).mono ?_; rintro e w11 ⟨rfl, x1⟩; have Y11 := hide (Y10.out.trans x1); clear x1))
  have sz11 := Y11.out.size
  replace G4_0 := hide (kM.fr_ext G4_0.out Y11.out)
  replace T5 := hide (kM.fr_ext T5.out Y11.out)
  replace T6 := hide (kI.fr_ext T6.out Y11.out)
  replace T7 := hide (kI.fr_ext T7.out Y11.out)
  replace G8_0 := hide (kM.fr_ext G8_0.out Y11.out)
  replace R0 := hide (kM.rd_ext R0.out Y11.out)
  replace R1 := hide (kI.rd_ext R1.out Y11.out)
  replace R2 := hide (kI.rd_ext R2.out Y11.out)
  replace Pb0 := hide (Pb0.out.ext Y11.out)
  replace Ps4_0 := hide (Ps4_0.out.ext Y11.out)
  replace Pa5 := hide (Pa5.out.ext Y11.out)
  replace Ps8_0 := hide (Ps8_0.out.ext Y11.out)
  replace X := hide (X.out.trans Y11.out)
  clear T10 Y10 Y11
  have qb0 := Pb0.out.cell
  have qs4_0 := Ps4_0.out.cell
  have qa5 := Pa5.out.cell
  have qs8_0 := Ps8_0.out.cell
  go_wp2_with fail
  clear qb0 qs4_0 qa5 qs8_0
  refine (kI.to _ _ z1 R1.out ok1).mono ?_
  rintro e w12 ⟨u12, rfl, o1, x1⟩
  have sz12 := x1.size
  replace G4_0 := hide (kM.fr_ext G4_0.out x1)
  replace T5 := hide (kM.fr_ext T5.out x1)
  replace T6 := hide (kI.fr_ext T6.out x1)
  replace T7 := hide (kI.fr_ext T7.out x1)
  replace G8_0 := hide (kM.fr_ext G8_0.out x1)
  replace R0 := hide (kM.rd_ext R0.out x1)
  replace R1 := hide (kI.rd_ext R1.out x1)
  replace R2 := hide (kI.rd_ext R2.out x1)
  replace Pb0 := hide (Pb0.out.ext x1)
  replace Ps4_0 := hide (Ps4_0.out.ext x1)
  replace Pa5 := hide (Pa5.out.ext x1)
  replace Ps8_0 := hide (Ps8_0.out.ext x1)
  replace X := hide (X.out.trans x1)
  have T12 := hide o1; clear o1 x1
  have qb0 := Pb0.out.cell
  have qs4_0 := Ps4_0.out.cell
  have qa5 := Pa5.out.cell
  have qs8_0 := Ps8_0.out.cell
  go_wp2_with fail
  clear qb0 qs4_0 qa5 qs8_0
  refine (kI.eq _ _ _ _ (kI.fr_rd T6.out) (kI.fr_rd T12.out) ok1).mono ?_
  rintro e w13 ⟨rfl, x1⟩
  have sz13 := x1.size
  clear T12
  replace G4_0 := hide (kM.fr_ext G4_0.out x1)
  replace T5 := hide (kM.fr_ext T5.out x1)
  replace T6 := hide (kI.fr_ext T6.out x1)
  replace T7 := hide (kI.fr_ext T7.out x1)
  replace G8_0 := hide (kM.fr_ext G8_0.out x1)
  replace R0 := hide (kM.rd_ext R0.out x1)
  replace R1 := hide (kI.rd_ext R1.out x1)
  replace R2 := hide (kI.rd_ext R2.out x1)
  replace Pb0 := hide (Pb0.out.ext x1)
  replace Ps4_0 := hide (Ps4_0.out.ext x1)
  replace Pa5 := hide (Pa5.out.ext x1)
  replace Ps8_0 := hide (Ps8_0.out.ext x1)
  replace X := hide (X.out.trans x1)
  clear x1
  have qb0 := Pb0.out.cell
  have qs4_0 := Ps4_0.out.cell
  have qa5 := Pa5.out.cell
  have qs8_0 := Ps8_0.out.cell
  go_wp2_with fail
  clear qb0 qs4_0 qa5 qs8_0
  refine (kI.to _ _ z2 R2.out ok2).mono ?_
  rintro e w14 ⟨u14, rfl, o1, x1⟩
  have sz14 := x1.size
  replace G4_0 := hide (kM.fr_ext G4_0.out x1)
  replace T5 := hide (kM.fr_ext T5.out x1)
  replace T6 := hide (kI.fr_ext T6.out x1)
  replace T7 := hide (kI.fr_ext T7.out x1)
  replace G8_0 := hide (kM.fr_ext G8_0.out x1)
  replace R0 := hide (kM.rd_ext R0.out x1)
  replace R1 := hide (kI.rd_ext R1.out x1)
  replace R2 := hide (kI.rd_ext R2.out x1)
  replace Pb0 := hide (Pb0.out.ext x1)
  replace Ps4_0 := hide (Ps4_0.out.ext x1)
  replace Pa5 := hide (Pa5.out.ext x1)
  replace Ps8_0 := hide (Ps8_0.out.ext x1)
  replace X := hide (X.out.trans x1)
  have T14 := hide o1; clear o1 x1
  have qb0 := Pb0.out.cell
  have qs4_0 := Ps4_0.out.cell
  have qa5 := Pa5.out.cell
  have qs8_0 := Ps8_0.out.cell
  go_wp2_with fail
  clear qb0 qs4_0 qa5 qs8_0
  refine (kI.eq _ _ _ _ (kI.fr_rd T7.out) (kI.fr_rd T14.out) ok2).mono ?_
  rintro e w15 ⟨rfl, x1⟩
  have sz15 := x1.size
  clear T14
  replace G4_0 := hide (kM.fr_ext G4_0.out x1)
  replace T5 := hide (kM.fr_ext T5.out x1)
  replace T6 := hide (kI.fr_ext T6.out x1)
  replace T7 := hide (kI.fr_ext T7.out x1)
  replace G8_0 := hide (kM.fr_ext G8_0.out x1)
  replace R0 := hide (kM.rd_ext R0.out x1)
  replace R1 := hide (kI.rd_ext R1.out x1)
  replace R2 := hide (kI.rd_ext R2.out x1)
  replace Pb0 := hide (Pb0.out.ext x1)
  replace Ps4_0 := hide (Ps4_0.out.ext x1)
  replace Pa5 := hide (Pa5.out.ext x1)
  replace Ps8_0 := hide (Ps8_0.out.ext x1)
  replace X := hide (X.out.trans x1)
  clear x1
  have qb0 := Pb0.out.cell
  have qs4_0 := Ps4_0.out.cell
  have qa5 := Pa5.out.cell
  have qs8_0 := Ps8_0.out.cell
  go_wp2_with fail
  clear qb0 qs4_0 qa5 qs8_0
  have kx16 := kM.ok_cnt ok0
  refine (kM.mark _ _ _ _ z0 _ T5.out ok0 (by omega) (by omega)).mono ?_
  rintro e w16 ⟨rfl, o1, t1⟩
  have sz16 := t1.size
  replace G4_0 := hide (kM.fr_tch G4_0.out t1 (by omega))
  replace T6 := hide (kI.fr_tch T6.out t1 (by omega))
  replace T7 := hide (kI.fr_tch T7.out t1 (by omega))
  replace G8_0 := hide (kM.fr_tch G8_0.out t1 (by omega))
  replace Pb0 := hide (Pb0.out.tch t1 (by omega))
  replace Ps4_0 := hide (Ps4_0.out.tch t1 (by omega))
  replace Pa5 := hide (Pa5.out.tch t1 (by omega))
  replace Ps8_0 := hide (Ps8_0.out.tch t1 (by omega))
  replace R0 := hide (kM.rd_ext RR0.out (X.out.tch t1 (by omega)))
  replace R1 := hide (kI.rd_ext RR1.out (X.out.tch t1 (by omega)))
  replace R2 := hide (kI.rd_ext RR2.out (X.out.tch t1 (by omega)))
  replace X := hide (X.out.tch t1 (by omega))
  have T5m := hide o1; clear o1 t1 T5
  have qb0 := Pb0.out.cell
  have qs4_0 := Ps4_0.out.cell
  have qa5 := Pa5.out.cell
  have qs8_0 := Ps8_0.out.cell
  go_wp2_with fail
  clear qb0 qs4_0 qa5 qs8_0
  have kx17 := kI.ok_cnt ok1
  refine (kI.mark _ _ _ _ z1 _ T6.out ok1 (by omega) (by omega)).mono ?_
  rintro e w17 ⟨rfl, o1, t1⟩
  have sz17 := t1.size
  replace G4_0 := hide (kM.fr_tch G4_0.out t1 (by omega))
  replace T5m := hide (kM.fr_tch T5m.out t1 (by omega))
  replace T7 := hide (kI.fr_tch T7.out t1 (by omega))
  replace G8_0 := hide (kM.fr_tch G8_0.out t1 (by omega))
  replace Pb0 := hide (Pb0.out.tch t1 (by omega))
  replace Ps4_0 := hide (Ps4_0.out.tch t1 (by omega))
  replace Pa5 := hide (Pa5.out.tch t1 (by omega))
  replace Ps8_0 := hide (Ps8_0.out.tch t1 (by omega))
  replace R0 := hide (kM.rd_ext RR0.out (X.out.tch t1 (by omega)))
  replace R1 := hide (kI.rd_ext RR1.out (X.out.tch t1 (by omega)))
  replace R2 := hide (kI.rd_ext RR2.out (X.out.tch t1 (by omega)))
  replace X := hide (X.out.tch t1 (by omega))
  have T6m := hide o1; clear o1 t1 T6
  have qb0 := Pb0.out.cell
  have qs4_0 := Ps4_0.out.cell
  have qa5 := Pa5.out.cell
  have qs8_0 := Ps8_0.out.cell
  go_wp2_with fail
  clear qb0 qs4_0 qa5 qs8_0
  have kx18 := kI.ok_cnt ok2
  refine (kI.mark _ _ _ _ z2 _ T7.out ok2 (by omega) (by omega)).mono ?_
  rintro e w18 ⟨rfl, o1, t1⟩
  have sz18 := t1.size
  replace G4_0 := hide (kM.fr_tch G4_0.out t1 (by omega))
  replace T5m := hide (kM.fr_tch T5m.out t1 (by omega))
  replace T6m := hide (kI.fr_tch T6m.out t1 (by omega))
  replace G8_0 := hide (kM.fr_tch G8_0.out t1 (by omega))
  replace Pb0 := hide (Pb0.out.tch t1 (by omega))
  replace Ps4_0 := hide (Ps4_0.out.tch t1 (by omega))
  replace Pa5 := hide (Pa5.out.tch t1 (by omega))
  replace Ps8_0 := hide (Ps8_0.out.tch t1 (by omega))
  replace R0 := hide (kM.rd_ext RR0.out (X.out.tch t1 (by omega)))
  replace R1 := hide (kI.rd_ext RR1.out (X.out.tch t1 (by omega)))
  replace R2 := hide (kI.rd_ext RR2.out (X.out.tch t1 (by omega)))
  replace X := hide (X.out.tch t1 (by omega))
  have T7m := hide o1; clear o1 t1 T7
  have qb0 := Pb0.out.cell
  have qs4_0 := Ps4_0.out.cell
  have qa5 := Pa5.out.cell
  have qs8_0 := Ps8_0.out.cell
  go_wp2_with fail
  clear qb0 qs4_0 qa5 qs8_0
  refine (kM.eq _ _ _ _ (kM.fr_rd G8_0.out) (kM.fr_rd G4_0.out) K4_0.out).mono ?_
  rintro e w19 ⟨rfl, x1⟩
  have sz19 := x1.size
  replace G4_0 := hide (kM.fr_ext G4_0.out x1)
  replace T5m := hide (kM.fr_ext T5m.out x1)
  replace T6m := hide (kI.fr_ext T6m.out x1)
  replace T7m := hide (kI.fr_ext T7m.out x1)
  replace G8_0 := hide (kM.fr_ext G8_0.out x1)
  replace R0 := hide (kM.rd_ext R0.out x1)
  replace R1 := hide (kI.rd_ext R1.out x1)
  replace R2 := hide (kI.rd_ext R2.out x1)
  replace Pb0 := hide (Pb0.out.ext x1)
  replace Ps4_0 := hide (Ps4_0.out.ext x1)
  replace Pa5 := hide (Pa5.out.ext x1)
  replace Ps8_0 := hide (Ps8_0.out.ext x1)
  replace X := hide (X.out.trans x1)
  clear x1
  have qb0 := Pb0.out.cell
  have qs4_0 := Ps4_0.out.cell
  have qa5 := Pa5.out.cell
  have qs8_0 := Ps8_0.out.cell
  go_wp2_with fail
  clear qb0 qs4_0 qa5 qs8_0
  have kx20 := kM.ok_cnt K8_0.out
  refine (kM.mark _ _ _ _ (addJudgeF z0 z1 z2).1 _ G8_0.out K8_0.out (by omega) (by omega)).mono ?_
  rintro e w20 ⟨rfl, o1, t1⟩
  have sz20 := t1.size
  replace G4_0 := hide (kM.fr_tch G4_0.out t1 (by omega))
  replace T5m := hide (kM.fr_tch T5m.out t1 (by omega))
  replace T6m := hide (kI.fr_tch T6m.out t1 (by omega))
  replace T7m := hide (kI.fr_tch T7m.out t1 (by omega))
  replace Pb0 := hide (Pb0.out.tch t1 (by omega))
  replace Ps4_0 := hide (Ps4_0.out.tch t1 (by omega))
  replace Pa5 := hide (Pa5.out.tch t1 (by omega))
  replace Ps8_0 := hide (Ps8_0.out.tch t1 (by omega))
  replace R0 := hide (kM.rd_ext RR0.out (X.out.tch t1 (by omega)))
  replace R1 := hide (kI.rd_ext RR1.out (X.out.tch t1 (by omega)))
  replace R2 := hide (kI.rd_ext RR2.out (X.out.tch t1 (by omega)))
  replace X := hide (X.out.tch t1 (by omega))
  have G8_0m := hide o1; clear o1 t1 G8_0
  have qb0 := Pb0.out.cell
  have qs4_0 := Ps4_0.out.cell
  have qa5 := Pa5.out.cell
  have qs8_0 := Ps8_0.out.cell
  go_wp2_with fail
  clear qb0 qs4_0 qa5 qs8_0
  refine (kM.held _ _ (addJudgeF z0 z1 z2).1 _ (kM.fr_rd G8_0m.out) K8_0.out (by omega) (by omega)).mono ?_
  rintro e w21 ⟨rfl, x1⟩
  have sz21 := x1.size
  replace G4_0 := hide (kM.fr_ext G4_0.out x1)
  replace T5m := hide (kM.fr_ext T5m.out x1)
  replace T6m := hide (kI.fr_ext T6m.out x1)
  replace T7m := hide (kI.fr_ext T7m.out x1)
  replace G8_0m := hide (kM.fr_ext G8_0m.out x1)
  replace R0 := hide (kM.rd_ext R0.out x1)
  replace R1 := hide (kI.rd_ext R1.out x1)
  replace R2 := hide (kI.rd_ext R2.out x1)
  replace Pb0 := hide (Pb0.out.ext x1)
  replace Ps4_0 := hide (Ps4_0.out.ext x1)
  replace Pa5 := hide (Pa5.out.ext x1)
  replace Ps8_0 := hide (Ps8_0.out.ext x1)
  replace X := hide (X.out.trans x1)
  clear x1
  have qb0 := Pb0.out.cell
  have qs4_0 := Ps4_0.out.cell
  have qa5 := Pa5.out.cell
  have qs8_0 := Ps8_0.out.cell
  go_wp2_with fail
  clear qb0 qs4_0 qa5 qs8_0
  refine (kM.to _ _ z0 R0.out ok0).mono ?_
  rintro e w22 ⟨u22, rfl, o1, x1⟩
  obtain ⟨Aa22, na22, ca22, Aa22', na22', ca22', rfl⟩ := kM.shape (kM.fr_rd o1)
  have sz22 := x1.size
  replace G4_0 := hide (kM.fr_ext G4_0.out x1)
  replace T5m := hide (kM.fr_ext T5m.out x1)
  replace T6m := hide (kI.fr_ext T6m.out x1)
  replace T7m := hide (kI.fr_ext T7m.out x1)
  replace G8_0m := hide (kM.fr_ext G8_0m.out x1)
  replace R0 := hide (kM.rd_ext R0.out x1)
  replace R1 := hide (kI.rd_ext R1.out x1)
  replace R2 := hide (kI.rd_ext R2.out x1)
  replace Pb0 := hide (Pb0.out.ext x1)
  replace Ps4_0 := hide (Ps4_0.out.ext x1)
  replace Pa5 := hide (Pa5.out.ext x1)
  replace Ps8_0 := hide (Ps8_0.out.ext x1)
  replace X := hide (X.out.trans x1)
  have T22 := hide o1; clear o1 x1
  have qb0 := Pb0.out.cell
  have qs4_0 := Ps4_0.out.cell
  have qa5 := Pa5.out.cell
  have qs8_0 := Ps8_0.out.cell
  go_wp2_with fail
  clear qb0 qs4_0 qa5 qs8_0
  refine (kI.to _ _ z1 R1.out ok1).mono ?_
  rintro e w23 ⟨u23, rfl, o1, x1⟩
  have sz23 := x1.size
  replace G4_0 := hide (kM.fr_ext G4_0.out x1)
  replace T5m := hide (kM.fr_ext T5m.out x1)
  replace T6m := hide (kI.fr_ext T6m.out x1)
  replace T7m := hide (kI.fr_ext T7m.out x1)
  replace G8_0m := hide (kM.fr_ext G8_0m.out x1)
  replace T22 := hide (kM.fr_ext T22.out x1)
  replace R0 := hide (kM.rd_ext R0.out x1)
  replace R1 := hide (kI.rd_ext R1.out x1)
  replace R2 := hide (kI.rd_ext R2.out x1)
  replace Pb0 := hide (Pb0.out.ext x1)
  replace Ps4_0 := hide (Ps4_0.out.ext x1)
  replace Pa5 := hide (Pa5.out.ext x1)
  replace Ps8_0 := hide (Ps8_0.out.ext x1)
  replace X := hide (X.out.trans x1)
  have T23 := hide o1; clear o1 x1
  have qb0 := Pb0.out.cell
  have qs4_0 := Ps4_0.out.cell
  have qa5 := Pa5.out.cell
  have qs8_0 := Ps8_0.out.cell
  go_wp2_with fail
  clear qb0 qs4_0 qa5 qs8_0
  refine (kI.to _ _ z2 R2.out ok2).mono ?_
  rintro e w24 ⟨u24, rfl, o1, x1⟩
  have sz24 := x1.size
  replace G4_0 := hide (kM.fr_ext G4_0.out x1)
  replace T5m := hide (kM.fr_ext T5m.out x1)
  replace T6m := hide (kI.fr_ext T6m.out x1)
  replace T7m := hide (kI.fr_ext T7m.out x1)
  replace G8_0m := hide (kM.fr_ext G8_0m.out x1)
  replace T22 := hide (kM.fr_ext T22.out x1)
  replace T23 := hide (kI.fr_ext T23.out x1)
  replace R0 := hide (kM.rd_ext R0.out x1)
  replace R1 := hide (kI.rd_ext R1.out x1)
  replace R2 := hide (kI.rd_ext R2.out x1)
  replace Pb0 := hide (Pb0.out.ext x1)
  replace Ps4_0 := hide (Ps4_0.out.ext x1)
  replace Pa5 := hide (Pa5.out.ext x1)
  replace Ps8_0 := hide (Ps8_0.out.ext x1)
  replace X := hide (X.out.trans x1)
  have T24 := hide o1; clear o1 x1
  have qb0 := Pb0.out.cell
  have qs4_0 := Ps4_0.out.cell
  have qa5 := Pa5.out.cell
  have qs8_0 := Ps8_0.out.cell
  go_wp2_with fail
  clear qb0 qs4_0 qa5 qs8_0
  refine (i.AddJudge_law _ _ _ _ z0 z1 z2 (kM.fr_rd T22.out) ok0 (kI.fr_rd T23.out) ok1 (kI.fr_rd T24.out) ok2 ).mono ?_
  rintro e w25 ⟨v25_0, rfl, o0, q0, x1⟩
  obtain ⟨As25_0, ns25_0, cs25_0, As25_0', ns25_0', cs25_0', rfl⟩ := kM.shape (kM.fr_rd o0)
  have sz25 := x1.size
  replace G4_0 := hide (kM.fr_ext G4_0.out x1)
  replace T5m := hide (kM.fr_ext T5m.out x1)
  replace T6m := hide (kI.fr_ext T6m.out x1)
  replace T7m := hide (kI.fr_ext T7m.out x1)
  replace G8_0m := hide (kM.fr_ext G8_0m.out x1)
  replace R0 := hide (kM.rd_ext R0.out x1)
  replace R1 := hide (kI.rd_ext R1.out x1)
  replace R2 := hide (kI.rd_ext R2.out x1)
  replace Pb0 := hide (Pb0.out.ext x1)
  replace Ps4_0 := hide (Ps4_0.out.ext x1)
  replace Pa5 := hide (Pa5.out.ext x1)
  replace Ps8_0 := hide (Ps8_0.out.ext x1)
  replace X := hide (X.out.trans x1)
  have G25_0 := hide o0; have K25_0 := hide q0; clear o0 q0
  have kc25_0 := kM.ok_cnt K25_0.out
  clear x1
  have qqb0 := (Pb0.out.alloc (.cells #[.slice As25_0 ns25_0 cs25_0, .slice As25_0' ns25_0' cs25_0'] 27)).cell
  have qqs4_0 := (Ps4_0.out.alloc (.cells #[.slice As25_0 ns25_0 cs25_0, .slice As25_0' ns25_0' cs25_0'] 27)).cell
  have qqa5 := (Pa5.out.alloc (.cells #[.slice As25_0 ns25_0 cs25_0, .slice As25_0' ns25_0' cs25_0'] 27)).cell
  have qqs8_0 := (Ps8_0.out.alloc (.cells #[.slice As25_0 ns25_0 cs25_0, .slice As25_0' ns25_0' cs25_0'] 27)).cell
  have qb0 := Pb0.out.cell
  have qs4_0 := Ps4_0.out.cell
  have qa5 := Pa5.out.cell
  have qs8_0 := Ps8_0.out.cell
  go_wp2_with fail
  clear qb0 qs4_0 qa5 qs8_0
  clear qqb0 qqs4_0 qqa5 qqs8_0
  obtain ⟨Ws25_0, hWs25_0⟩ : ∃ W', Hid (W' = w25.alloc (.cells #[.slice As25_0 ns25_0 cs25_0, .slice As25_0' ns25_0' cs25_0'] 27)) := ⟨_, rfl⟩
  have x1 : Ext w25 Ws25_0 := by rw [hWs25_0.out]; exact Ext.alloc _ _
  replace G4_0 := hide (kM.fr_ext G4_0.out x1)
  replace T5m := hide (kM.fr_ext T5m.out x1)
  replace T6m := hide (kI.fr_ext T6m.out x1)
  replace T7m := hide (kI.fr_ext T7m.out x1)
  replace G8_0m := hide (kM.fr_ext G8_0m.out x1)
  replace G25_0 := hide (kM.fr_ext G25_0.out x1)
  replace R0 := hide (kM.rd_ext R0.out x1)
  replace R1 := hide (kI.rd_ext R1.out x1)
  replace R2 := hide (kI.rd_ext R2.out x1)
  replace Pb0 := hide (Pb0.out.ext x1)
  replace Ps4_0 := hide (Ps4_0.out.ext x1)
  replace Pa5 := hide (Pa5.out.ext x1)
  replace Ps8_0 := hide (Ps8_0.out.ext x1)
  replace X := hide (X.out.trans x1)
  have Ps25_0 : Hid (Blk Ws25_0 w25.heap.size #[.slice As25_0 ns25_0 cs25_0, .slice As25_0' ns25_0' cs25_0'] 27) := by rw [hWs25_0.out]; exact Blk.new rfl _ _
  have szPs25_0 := Ps25_0.out.lt
  rw [← hWs25_0.out]; clear hWs25_0 x1
  refine (kM.eq _ _ _ _ (kM.fr_rd G25_0.out) (kM.fr_rd G4_0.out) K4_0.out).mono ?_
  rintro e w26 ⟨rfl, x1⟩
  have sz26 := x1.size
  replace G4_0 := hide (kM.fr_ext G4_0.out x1)
  replace T5m := hide (kM.fr_ext T5m.out x1)
  replace T6m := hide (kI.fr_ext T6m.out x1)
  replace T7m := hide (kI.fr_ext T7m.out x1)
  replace G8_0m := hide (kM.fr_ext G8_0m.out x1)
  replace G25_0 := hide (kM.fr_ext G25_0.out x1)
  replace R0 := hide (kM.rd_ext R0.out x1)
  replace R1 := hide (kI.rd_ext R1.out x1)
  replace R2 := hide (kI.rd_ext R2.out x1)
  replace Pb0 := hide (Pb0.out.ext x1)
  replace Ps4_0 := hide (Ps4_0.out.ext x1)
  replace Pa5 := hide (Pa5.out.ext x1)
  replace Ps8_0 := hide (Ps8_0.out.ext x1)
  replace Ps25_0 := hide (Ps25_0.out.ext x1)
  replace X := hide (X.out.trans x1)
  clear x1
  have qb0 := Pb0.out.cell
  have qs4_0 := Ps4_0.out.cell
  have qa5 := Pa5.out.cell
  have qs8_0 := Ps8_0.out.cell
  have qs25_0 := Ps25_0.out.cell
  go_wp2_with fail
  clear qb0 qs4_0 qa5 qs8_0 qs25_0
  refine (kM.held _ _ (addJudgeF z0 z1 z2).1 _ (kM.fr_rd G8_0m.out) K8_0.out (by omega) (by omega)).mono ?_
  rintro e w27 ⟨rfl, x1⟩
  have sz27 := x1.size
  replace G4_0 := hide (kM.fr_ext G4_0.out x1)
  replace T5m := hide (kM.fr_ext T5m.out x1)
  replace T6m := hide (kI.fr_ext T6m.out x1)
  replace T7m := hide (kI.fr_ext T7m.out x1)
  replace G8_0m := hide (kM.fr_ext G8_0m.out x1)
  replace G25_0 := hide (kM.fr_ext G25_0.out x1)
  replace R0 := hide (kM.rd_ext R0.out x1)
  replace R1 := hide (kI.rd_ext R1.out x1)
  replace R2 := hide (kI.rd_ext R2.out x1)
  replace Pb0 := hide (Pb0.out.ext x1)
  replace Ps4_0 := hide (Ps4_0.out.ext x1)
  replace Pa5 := hide (Pa5.out.ext x1)
  replace Ps8_0 := hide (Ps8_0.out.ext x1)
  replace Ps25_0 := hide (Ps25_0.out.ext x1)
  replace X := hide (X.out.trans x1)
  clear x1
  have qb0 := Pb0.out.cell
  have qs4_0 := Ps4_0.out.cell
  have qa5 := Pa5.out.cell
  have qs8_0 := Ps8_0.out.cell
  have qs25_0 := Ps25_0.out.cell
  go_wp2_with fail
  clear qb0 qs4_0 qa5 qs8_0 qs25_0
  go_ret
  exact ⟨rfl, X.out⟩

end Go.Proofs.Ytifbokcenbchnaa
