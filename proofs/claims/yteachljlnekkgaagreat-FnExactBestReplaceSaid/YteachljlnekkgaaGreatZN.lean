/- Single items. -/
import Derived.Test.YteachljlnekkgaaGreatZM
namespace Go.Proofs.YteachljlnekkgaaGreat
open Go.RowKit Go.Sort
set_option linter.unusedVariables false

theorem one_done {w W0 : World} {nm : List UInt8} (hn : nm.length ≤ 1048576) (hx : Ext w W0) :
    ∃ f, kdItem.own ((W0.alloc (.cells #[.string (bs nm)] 9)).alloc (.cells #[.int .i64 0] 3)) [.slice (some ⟨W0.heap.size, 0, none⟩) 1 1, .slice (some ⟨W0.heap.size + 1, 0, none⟩) 1 1, .bool false] (oneI nm) f ∧ (∀ i ∈ f, w.heap.size ≤ i) ∧
      Ext w ((W0.alloc (.cells #[.string (bs nm)] 9)).alloc (.cells #[.int .i64 0] 3)) := by
  have h1 := (LO.oneS W0 nm hn).ext (Ext.alloc (W0.alloc (.cells #[.string (bs nm)] 9)) (.cells #[.int .i64 0] 3))
  have h2 := (OwnI.one (lo := 0) (W0.alloc (.cells #[.string (bs nm)] 9)) 0 (Nat.zero_le _)).lo_
  have hz : (W0.alloc (.cells #[.string (bs nm)] 9)).heap.size = W0.heap.size + 1 := by simp
  have hs := hx.size
  rw [hz] at h2
  refine ⟨_, kdItem.mkOwn (d := oneI nm) h1 h2 (fun i hi hi' => by simp at hi hi'; omega), fun i hi => ?_, (hx.trans (Ext.alloc _ _)).trans (Ext.alloc _ _)⟩
  simp at hi
  omega

set_option maxRecDepth 100000 in
set_option maxHeartbeats 1000000 in
theorem i.singleItem_m (w : World) (x : ElD) (hn : x.1.length ≤ 1048576) :
    Calls Tryz.prog 64 #[.agg #[.string (bs x.1), .int .i64 x.2.1, .int .i64 x.2.2.1, .int .i64 x.2.2.2]] w fun e w' => ∃ A1 A2 f, e = .returned (.agg #[.slice A1 1 1, .slice A2 1 1, .bool false]) ∧ kdItem.own w' [.slice A1 1 1, .slice A2 1 1, .bool false] (oneI x.1) f ∧ (∀ i ∈ f, w.heap.size ≤ i) ∧ Ext w w' := by
  obtain ⟨nm, hnm⟩ : ∃ nm, Hid (x.1 = nm) := ⟨_, rfl⟩
  rw [hnm.out] at hn ⊢
  generalize x.2.1 = y1 at *
  generalize x.2.2.1 = y2 at *
  generalize x.2.2.2 = y3 at *
  obtain ⟨W0, hW0⟩ : ∃ W0, Hid (W0 = (w.alloc (.cells #[.string (bs nm), .int .i64 y1, .int .i64 y2, .int .i64 y3] 65)).alloc (.cells #[.slice (some ⟨w.heap.size + 1 + 1, 0, none⟩) 1 1, .slice (some ⟨w.heap.size + 1 + 1 + 1, 0, none⟩) 1 1, .bool false] 60)) := ⟨_, rfl⟩
  have X0 : Hid (Ext w W0) := by rw [hW0.out]; exact (Ext.alloc w _).trans (Ext.alloc _ _)
  have z0 : Hid (W0.heap.size = w.heap.size + 1 + 1) := by rw [hW0.out]; show _ = _; simp
  have DN := hide (one_done (w := w) (W0 := W0) (nm := nm) hn X0.out)
  rw [z0.out, hW0.out] at DN
  generalize bs nm = nb at *
  go_enter Tryz.func64, Tryz.ntmps64
  go_wp2
  refine bodyPost_ret (v := .agg #[.slice (some ⟨w.heap.size + 1 + 1, 0, none⟩) 1 1, .slice (some ⟨w.heap.size + 1 + 1 + 1, 0, none⟩) 1 1, .bool false]) (by simp [results, Tryz.results64, go_sem]) rfl ?_
  obtain ⟨f, k1, k2, k3⟩ := DN.out
  exact ⟨_, _, f, rfl, k1, k2, k3⟩

set_option maxRecDepth 100000 in
set_option maxHeartbeats 1000000 in
theorem s.pnItem_m (w : World) (nm : List UInt8) (hn : nm.length ≤ 1048576) :
    Calls Tryz.prog 55 #[.string (bs nm)] w fun e w' => ∃ A1 A2 f, e = .returned (.agg #[.slice A1 1 1, .slice A2 1 1, .bool false]) ∧ kdItem.own w' [.slice A1 1 1, .slice A2 1 1, .bool false] (oneI nm) f ∧ (∀ i ∈ f, w.heap.size ≤ i) ∧ Ext w w' := by
  obtain ⟨W0, hW0⟩ : ∃ W0, Hid (W0 = w.alloc (.cells #[.slice (some ⟨w.heap.size + 1, 0, none⟩) 1 1, .slice (some ⟨w.heap.size + 1 + 1, 0, none⟩) 1 1, .bool false] 60)) := ⟨_, rfl⟩
  have X0 : Hid (Ext w W0) := by rw [hW0.out]; exact Ext.alloc w _
  have z0 : Hid (W0.heap.size = w.heap.size + 1) := by rw [hW0.out]; show _ = _; simp
  have DN := hide (one_done (w := w) (W0 := W0) (nm := nm) hn X0.out)
  rw [z0.out, hW0.out] at DN
  generalize bs nm = nb at *
  go_enter Tryz.func55, Tryz.ntmps55
  go_wp2
  refine bodyPost_ret (v := .agg #[.slice (some ⟨w.heap.size + 1, 0, none⟩) 1 1, .slice (some ⟨w.heap.size + 1 + 1, 0, none⟩) 1 1, .bool false]) (by simp [results, Tryz.results55, go_sem]) rfl ?_
  obtain ⟨f, k1, k2, k3⟩ := DN.out
  exact ⟨_, _, f, rfl, k1, k2, k3⟩
end Go.Proofs.YteachljlnekkgaaGreat
