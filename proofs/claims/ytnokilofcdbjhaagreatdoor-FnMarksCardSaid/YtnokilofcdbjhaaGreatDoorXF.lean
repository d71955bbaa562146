/- The text of marks: the reference's function. -/
import Derived.Test.YtnokilofcdbjhaaGreatDoorXE
namespace Go.Proofs.YtnokilofcdbjhaaGreatDoor
open Go.RowKit Go.Sort
set_option linter.unusedVariables false

set_option maxRecDepth 100000 in
set_option maxHeartbeats 1000000 in
theorem s.MarksText_law (w : World) (v : Value) (d : MD) (h : kM.rd w v d) (hok : kM.ok d) :
    Calls Tryz.prog 6 #[v] w fun e w' => e = .returned (.tuple #[.string (bs (marksTextF d).1), .bool (marksTextF d).2]) ∧ Ext w w' := by
  have RD := hide h
  obtain ⟨A, c, A', c', rfl, h1, h2⟩ := kM.lr h
  have hok : kdM.wt d ≤ 1048576 := hok
  have H1 := hide h1
  have H2 := hide h2
  clear h h1 h2
  obtain ⟨R1, hR1⟩ : ∃ R, Hid ((marksTextF d).1 = R) := ⟨_, rfl⟩
  obtain ⟨R2, hR2⟩ : ∃ R, Hid ((marksTextF d).2 = R) := ⟨_, rfl⟩
  rw [hR1.out, hR2.out]
  obtain ⟨n, hn⟩ : ∃ n, Hid (d.1.length = n) := ⟨_, rfl⟩
  obtain ⟨n', hn'⟩ : ∃ n', Hid (d.2.length = n') := ⟨_, rfl⟩
  rw [hn.out, hn'.out] at RD
  rw [hn.out, hn'.out]
  obtain ⟨W0, hW0⟩ : ∃ W0, Hid (W0 = w.alloc (.cells #[.slice A n c, .slice A' n' c'] 25)) := ⟨_, rfl⟩
  have X0 : Hid (Ext w W0) := by rw [hW0.out]; exact Ext.alloc w _
  have B0 : Hid (Blk W0 w.heap.size #[.slice A n c, .slice A' n' c'] 25) := by rw [hW0.out]; exact Blk.new rfl _ _
  go_enter Tryz.func6, Tryz.ntmps6
  go_wp2_with fail
  rw [← hW0.out]
  have hc := s.mkAll_any A A' c c' w.heap.size d W0 (H1.out.ext X0.out (Nat.le_refl _)) (H2.out.ext X0.out (Nat.le_refl _)) X0.out.size hok
  rw [hn.out, hn'.out] at hc
  refine hc.mono ?_
  rintro e w1 ⟨rfl, hx⟩
  have X1 := hide (X0.out.trans hx)
  replace B0 := hide (B0.out.ext hx)
  clear hx hc hW0
  cases hm : marksB d
  · have HM := hide hm
    clear hm
    go_wp2
    go_ret2
    refine ⟨?_, X1.out⟩
    rw [← hR1.out, ← hR2.out]
    simp [marksTextF, HM.out]
    rfl
  · have MT := hide (s.mkText_m w1 _ d (kM.rd_ext RD.out X1.out) hm)
    have HR1 : Hid (R1 = marksT d) := by show _ = _; rw [← hR1.out]; simp [marksTextF, hm]
    have HR2 : Hid (R2 = true) := by show _ = _; rw [← hR2.out]; simp [marksTextF, hm]
    rw [← HR1.out] at MT
    clear hm hR1 hR2
    have cB := B0.out.cell
    go_wp2_with fail
    refine MT.out.mono ?_
    rintro e w2 ⟨rfl, x2⟩
    have X2 := hide (X1.out.trans x2)
    clear x2 cB
    go_wp2
    go_ret2
    exact ⟨by rw [HR2.out]; rfl, X2.out⟩
end Go.Proofs.YtnokilofcdbjhaaGreatDoor
