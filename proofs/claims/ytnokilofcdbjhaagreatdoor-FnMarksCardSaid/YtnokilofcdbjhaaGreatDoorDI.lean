/- Draws of marks for the law of marks. -/
import Derived.Test.YtnokilofcdbjhaaGreatDoorGD
namespace Go.Proofs.YtnokilofcdbjhaaGreatDoor
open Go.RowKit Go.Sort
set_option linter.unusedVariables false

set_option maxRecDepth 100000 in
set_option maxHeartbeats 4000000 in
theorem s.DrawJudgesOf_m (w : World) (A : Option Addr) (n c : Nat) (h : ArgB w A n c) :
    Calls Tryz.prog 25 #[.slice A n c] w fun e w' => ∃ v d, e = .returned v ∧ RdA kM w.heap.size w' v d ∧ kM.ok d ∧ Ext w w' := by
  obtain ⟨W0, hW0⟩ : ∃ W0, Hid (W0 = (w.alloc (.cells #[.slice none 0 0, .slice none 0 0] 25)).alloc (.cells #[.slice A n c, .int .i64 0, .int .u64 0] 65)) := ⟨_, rfl⟩
  obtain ⟨g, hg⟩ : ∃ g, Hid (g = w.heap.size + 1) := ⟨_, rfl⟩
  have gl : w.heap.size < g := by rw [hg.out]; omega
  have CU : Hid (Cur W0 g 0) := by
    rw [hW0.out, hg.out]
    have := Cur.new (h.ext (Ext.alloc w (.cells #[.slice none 0 0, .slice none 0 0] 25)))
    show Cur _ _ _
    simpa using this
  have X : Hid (Ext w W0) := by rw [hW0.out]; exact (Ext.alloc w _).trans (Ext.alloc _ _)
  have BX : Hid (Blk W0 w.heap.size #[.slice none 0 0, .slice none 0 0] 25) := by rw [hW0.out]; exact (Blk.new rfl _ _).alloc _
  clear h
  go_enter Tryz.func25, Tryz.ntmps25
  go_wp2_with fail
  rw [← hW0.out, ← hg.out]
  clear hW0 hg
  refine (cu.howMany_m W0 g _ CU.out (by omega)).mono ?_
  rintro e w1 ⟨m1, rfl, b1, c1, k1⟩
  replace X := hide (TchF.ext_of X.out k1 (by omega))
  replace BX := hide (BX.out.tchF k1 (by simp; omega))
  replace CU := hide c1
  clear c1 k1
  go_wp2_with fail
  refine (cu.anyMarks_m w1 g _ m1 CU.out (by omega) (by omega)).mono ?_
  rintro e w2 ⟨v, d, rfl, hr, hok, c2, k2⟩
  have hlo : w.heap.size < w1.heap.size ∧ g < w1.heap.size := by have := CU.out.lt; omega
  replace X := hide (TchF.ext_of X.out k2 (by omega))
  replace BX := hide (BX.out.tchF k2 (by simp; omega))
  obtain ⟨A1, n1, e1, A2, n2, e2, rfl⟩ := kM.shape hr.rd
  have OK := hide hok
  have RD := hide hr
  have q0 := BX.out.cell; have f0 := BX.out.free; have l0 := BX.out.lt
  clear hr hok c2 k2
  go_wp2
  refine bodyPost_ret (v := .agg #[.slice A1 n1 e1, .slice A2 n2 e2]) (by simp [results, Tryz.results25, go_sem, q0]) rfl ?_
  exact ⟨_, d, rfl, ((RD.out.far (by simpa using hlo.1) _).far (by simpa using hlo.1) _).mono (by omega), OK.out, Below.setCell (Below.setCell X.out (by simp) _) (by simp) _⟩
set_option maxRecDepth 100000 in
set_option maxHeartbeats 4000000 in
theorem s.DrawMarksText_m (w : World) (A : Option Addr) (n c : Nat) (h : ArgB w A n c) :
    Calls Tryz.prog 4 #[.slice A n c] w fun e w' => ∃ v d, e = .returned v ∧ RdA kM w.heap.size w' v d ∧ kM.ok d ∧ Ext w w' := by
  obtain ⟨W0, hW0⟩ : ∃ W0, Hid (W0 = w.alloc (.cells #[.slice none 0 0, .slice none 0 0] 25)) := ⟨_, rfl⟩
  have X : Hid (Ext w W0) := by rw [hW0.out]; exact Ext.alloc w _
  have BX : Hid (Blk W0 w.heap.size #[.slice none 0 0, .slice none 0 0] 25) := by rw [hW0.out]; exact Blk.new rfl _ _
  have HA := hide (h.ext X.out)
  clear h
  have wl := BX.out.lt
  go_enter Tryz.func4, Tryz.ntmps4
  go_wp2_with fail
  rw [← hW0.out]
  clear hW0
  refine (s.DrawJudgesOf_m W0 _ _ _ HA.out).mono ?_
  rintro e w1 ⟨v, d, rfl, hr, hok, x1⟩
  obtain ⟨A1, n1, e1, A2, n2, e2, rfl⟩ := kM.shape hr.rd
  have OK := hide hok
  have RD := hide hr
  replace X := hide (X.out.trans x1)
  replace BX := hide (BX.out.ext x1)
  have q0 := BX.out.cell; have f0 := BX.out.free; have l0 := BX.out.lt
  clear hr hok x1 HA
  go_wp2
  refine bodyPost_ret (v := .agg #[.slice A1 n1 e1, .slice A2 n2 e2]) (by simp [results, Tryz.results4, go_sem, q0]) rfl ?_
  exact ⟨_, d, rfl, ((RD.out.far (by simpa using wl) _).far (by simpa using wl) _).mono (by omega), OK.out, Below.setCell (Below.setCell X.out (by simp) _) (by simp) _⟩
/- Printed by di.py from here on. -/
set_option maxRecDepth 100000 in
set_option maxHeartbeats 4000000 in
theorem s.DrawAreMarks_m (w : World) (A : Option Addr) (n c : Nat) (h : ArgB w A n c) :
    Calls Tryz.prog 17 #[.slice A n c] w fun e w' => ∃ v d y0, e = .returned (.tuple #[v, .int .i64 y0]) ∧ kM.rd w' v d ∧ kM.ok d ∧ InR y0 ∧ Ext w w' := by
  obtain ⟨W0, hW0⟩ : ∃ W0, Hid (W0 = (w.alloc (.cells #[.slice none 0 0, .slice none 0 0] 25)).alloc (.cells #[.slice A n c, .int .i64 0, .int .u64 0] 65)) := ⟨_, rfl⟩
  obtain ⟨g, hg⟩ : ∃ g, Hid (g = w.heap.size + 1) := ⟨_, rfl⟩
  have gl : w.heap.size < g := by rw [hg.out]; omega
  have CU : Hid (Cur W0 g 0) := by
    rw [hW0.out, hg.out]
    have := Cur.new (h.ext (Ext.alloc w (.cells #[.slice none 0 0, .slice none 0 0] 25)))
    show Cur _ _ _
    simpa using this
  have X : Hid (Ext w W0) := by rw [hW0.out]; exact (Ext.alloc w _).trans (Ext.alloc _ _)
  have BX : Hid (Blk W0 w.heap.size #[.slice none 0 0, .slice none 0 0] 25) := by rw [hW0.out]; exact (Blk.new rfl _ _).alloc _
  clear h
  go_enter Tryz.func17, Tryz.ntmps17
  go_wp2_with fail
  rw [← hW0.out, ← hg.out]
  clear hW0 hg
  refine (cu.howMany_m W0 g _ CU.out (by omega)).mono ?_
  rintro e w1 ⟨m1, rfl, b1, c1, k1⟩
  replace X := hide (TchF.ext_of X.out k1 (by omega))
  replace BX := hide (BX.out.tchF k1 (by simp; omega))
  replace CU := hide c1
  clear c1 k1
  go_wp2_with fail
  refine (cu.anyMarks_m w1 g _ m1 CU.out (by omega) (by omega)).mono ?_
  rintro e w2 ⟨v, d, rfl, hr, hok, c2, k2⟩
  replace X := hide (TchF.ext_of X.out k2 (by omega))
  replace BX := hide (BX.out.tchF k2 (by simp; omega))
  have hlo : w.heap.size < w1.heap.size ∧ g < w1.heap.size := by have := CU.out.lt; omega
  obtain ⟨A1, n1, e1, A2, n2, e2, rfl⟩ := kM.shape hr.rd
  have RD := hide hr
  have OK := hide hok
  clear hr hok
  replace CU := hide c2
  clear c2 k2
  go_wp2_with fail
  refine (cu.pick_m w2 g _ 12 CU.out (by omega) (by unfold InR; omega)).mono ?_
  rintro e w3 ⟨y3, rfl, a3, b3', -, c3, k3⟩
  have b3 := b3' (by omega)
  clear b3'
  replace X := hide (TchF.ext_of X.out k3 (by omega))
  replace BX := hide (BX.out.tchF k3 (by simp; omega))
  replace RD := hide (RD.out.tchF k3 (fun i hi => by simp at hi; omega))
  replace CU := hide c3
  clear c3 k3
  have q0 := BX.out.cell
  have f0 := BX.out.free
  go_wp2
  refine bodyPost_ret (v := .tuple #[.agg #[.slice A1 n1 e1, .slice A2 n2 e2], .int .i64 (m1 + y3 / 11)]) (by simp [results, Tryz.results17, go_sem, q0]) rfl ?_
  exact ⟨_, d, m1 + y3 / 11, rfl, (kM.end2 RD.out hlo.1 X.out).1, OK.out, by unfold InR; omega, (kM.end2 RD.out hlo.1 X.out).2⟩
end Go.Proofs.YtnokilofcdbjhaaGreatDoor
