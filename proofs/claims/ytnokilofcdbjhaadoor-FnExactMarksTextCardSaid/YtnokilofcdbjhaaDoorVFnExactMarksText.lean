/- The walk of FnExactMarksText. -/
import Derived.Test.YtnokilofcdbjhaaDoorXD
import Derived.Test.YtnokilofcdbjhaaDoorXF
import Derived.Deep.RegionHeld3
namespace Go.Proofs.YtnokilofcdbjhaaDoor
open Go.RowKit Go.Sort
set_option linter.unusedVariables false
set_option maxHeartbeats 1600000 in
set_option maxRecDepth 100000 in
theorem FnExactMarksText_walk (v0 : Value) (z0 : MD) (w : World) (h0 : kM.rd w v0 z0) (ht : Tab10 w) :
    Calls Tryd.prog 3 #[v0] w fun e w' => e = .returned (.bool true) ∧ Ext w w' := by
  obtain ⟨Ab0, nb0, cb0, Ab0', nb0', cb0', rfl⟩ := kM.shape h0
  have R0 := hide h0; clear h0
  have HT := hide ht; clear ht
  obtain ⟨W0, hW0⟩ : ∃ W0, Hid (W0 = (w.alloc (.cells #[.slice Ab0 nb0 cb0, .slice Ab0' nb0' cb0'] 24))) := ⟨_, rfl⟩
  have X : Hid (Ext w W0) := by rw [hW0.out]; exact Ext.alloc w _
  have Pb0 : Hid (Blk W0 (w.heap.size) #[.slice Ab0 nb0 cb0, .slice Ab0' nb0' cb0'] 24) := by rw [hW0.out]; exact Blk.new rfl _ _
  have szb0 := Pb0.out.lt
  have RR0 := R0
  replace R0 := hide (kM.rd_ext R0.out X.out)
  go_enter Tryd.func3, Tryd.ntmps3
  go_wp2_with fail
  rw [← hW0.out]; clear hW0
  refine (kM.sz _ _ z0 R0.out).mono ?_
  rintro e wz ⟨rfl, x1⟩
  have szz0 := x1.size
  replace R0 := hide (kM.rd_ext R0.out x1)
  replace X := hide (X.out.trans x1)
  replace Pb0 := hide (Pb0.out.ext x1)
  clear x1
  by_cases big : 1048576 < kM.wt z0
  · rw [if_neg (by omega)]
    go_wp2_with fail
    go_ret
    exact ⟨rfl, X.out⟩
  have ok0 : kM.ok z0 := kM.ok_of (by omega)
  obtain ⟨m0, hm, hm00⟩ : ∃ m : Nat, Hid ((1048576 : Int) - (kM.wt z0 : Nat) = (m : Int)) ∧ m ≤ 1048576 := ⟨1048576 - kM.wt z0, by show _ = _; omega, by omega⟩
  rw [if_pos (by omega), hm.out]
  clear big hm
  have qb0 := Pb0.out.cell
  go_wp2_with fail
  clear qb0
  refine (kM.to _ _ z0 R0.out ok0).mono ?_
  rintro e w1 ⟨u1, rfl, o1, x1⟩
  obtain ⟨Aa1, na1, ca1, Aa1', na1', ca1', rfl⟩ := kM.shape (kM.fr_rd o1)
  have sz1 := x1.size
  replace R0 := hide (kM.rd_ext R0.out x1)
  replace Pb0 := hide (Pb0.out.ext x1)
  replace X := hide (X.out.trans x1)
  have T1 := hide o1; clear o1 x1
  have qb0 := Pb0.out.cell
  go_wp2_with fail
  clear qb0
  refine (s.MarksText_law _ _ z0 (kM.fr_rd T1.out) ok0 ).mono ?_
  rintro e w2 ⟨rfl, x1⟩
  have sz2 := x1.size
  replace R0 := hide (kM.rd_ext R0.out x1)
  replace Pb0 := hide (Pb0.out.ext x1)
  replace X := hide (X.out.trans x1)
  clear x1
  have qb0 := Pb0.out.cell
  go_wp2_with fail
  clear qb0
  refine (kM.to _ _ z0 R0.out ok0).mono ?_
  rintro e w3 ⟨u3, rfl, o1, x1⟩
  obtain ⟨Aa3, na3, ca3, Aa3', na3', ca3', rfl⟩ := kM.shape (kM.fr_rd o1)
  have sz3 := x1.size
  replace R0 := hide (kM.rd_ext R0.out x1)
  replace Pb0 := hide (Pb0.out.ext x1)
  replace X := hide (X.out.trans x1)
  have T3 := hide o1; clear o1 x1
  have qb0 := Pb0.out.cell
  go_wp2_with fail
  clear qb0
  obtain ⟨Wa3, hWa3⟩ : ∃ W', Hid (W' = w3.alloc (.cells #[.slice Aa3 na3 ca3, .slice Aa3' na3' ca3'] 28)) := ⟨_, rfl⟩
  have x1 : Ext w3 Wa3 := by rw [hWa3.out]; exact Ext.alloc _ _
  replace T3 := hide (kM.fr_ext T3.out x1)
  replace R0 := hide (kM.rd_ext R0.out x1)
  replace Pb0 := hide (Pb0.out.ext x1)
  replace X := hide (X.out.trans x1)
  have Pa3 : Hid (Blk Wa3 w3.heap.size #[.slice Aa3 na3 ca3, .slice Aa3' na3' ca3'] 28) := by rw [hWa3.out]; exact Blk.new rfl _ _
  have szPa3 := Pa3.out.lt
  rw [← hWa3.out]; clear hWa3 x1
  refine (i.MarksText_m _ _ z0 (kM.fr_rd T3.out) ok0 (HT.out.ext X.out)).mono ?_
  rintro e w4 ⟨rfl, x1⟩
  have sz4 := x1.size
  replace T3 := hide (kM.fr_ext T3.out x1)
  replace R0 := hide (kM.rd_ext R0.out x1)
  replace Pb0 := hide (Pb0.out.ext x1)
  replace Pa3 := hide (Pa3.out.ext x1)
  replace X := hide (X.out.trans x1)
  clear x1
  have qb0 := Pb0.out.cell
  have qa3 := Pa3.out.cell
  go_wp2_with fail
  clear qb0 qa3
  go_region_held3 (fun w' => (∀ i, w'.cell? ⟨w3.heap.size, i, none⟩ = #[Value.slice Aa3 na3 ca3, .slice Aa3' na3' ca3'][i]?) ∧ (∀ i, w'.cell? ⟨w.heap.size, i, none⟩ = #[Value.slice Ab0 nb0 cb0, .slice Ab0' nb0' cb0'][i]?)) (first | exact ⟨(Pa3.out.ext Y6.out).cell, (Pb0.out.ext Y6.out).cell⟩ | exact ⟨(Pa3.out.ext Y5.out).cell, (Pb0.out.ext Y5.out).cell⟩ | exact ⟨(Pa3.out.ext (Ext.drew w4)).cell, (Pb0.out.ext (Ext.drew w4)).cell⟩)
    (first | (go_at_call 7; refine (kM.to w4.drew _ z0 (kM.rd_ext R0.out (Ext.drew w4)) ok0).mono ?_; rintro e w5 ⟨u5, rfl, o1, x1⟩; have T5 := hide o1; have Y5 := hide ((Ext.drew w4).trans x1); clear o1 x1) | (go_at_call 9; refine (kM.eq w5 _ _ z0 (kM.fr_rd (kM.fr_ext T3.out Y5.out)) (kM.fr_rd T5.out) ok0).mono ?_; rintro e w6 ⟨rfl, x1⟩; have Y6 := hide (Y5.out.trans x1); clear x1))
  have sz6 := Y6.out.size
  replace T3 := hide (kM.fr_ext T3.out Y6.out)
  replace R0 := hide (kM.rd_ext R0.out Y6.out)
  replace Pb0 := hide (Pb0.out.ext Y6.out)
  replace Pa3 := hide (Pa3.out.ext Y6.out)
  replace X := hide (X.out.trans Y6.out)
  clear T5 Y5 Y6
  have qb0 := Pb0.out.cell
  have qa3 := Pa3.out.cell
  go_wp2_with fail
  clear qb0 qa3
  go_ret
  exact ⟨rfl, X.out⟩

end Go.Proofs.YtnokilofcdbjhaaDoor
