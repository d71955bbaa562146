/- Single items. -/
import Derived.Test.YtiohjcadmahkgaaGreatZM
namespace Go.Proofs.YtiohjcadmahkgaaGreat
open Go.RowKit Go.Sort
set_option linter.unusedVariables false

theorem one_done {w W0 : World} {nm : List UInt8} (hn : nm.length ≤ 1048576) (hx : Ext w W0) :
    ∃ f, kdItem.own ((W0.alloc (.cells #[.string (bs nm)] 9)).alloc (.cells #[.int .i64 0] 3)) [.slice (some ⟨W0.heap.size, 0, none⟩) 1 1, .slice (some ⟨W0.heap.size + 1, 0, none⟩) 1 1, .bool false] (oneI nm) f ∧ (∀ i ∈ f, w.heap.size ≤ i) ∧
      Ext w ((W0.alloc (.cells #[.string (bs nm)] 9)).alloc (.cells #[.int .i64 0] 3)) := by
  have h1 := (LO.oneS W0 nm hn).ext (Ext.alloc (W0.alloc (.cells #[.string (bs nm)] 9)) (.cells #[.int .i64 0] 3))
  have h2 := (OwnI.one (lo := 0) (W0.alloc (.cells #[.string (bs nm)] 9)) 0 (Nat.zero_le _)).lo_
  have hz : (W0.alloc (.cells #[.string (bs nm)] 9)).heap.size = W0.heap.size + 1 := by simp
  have hs := hx.size
  rw [hz] at h2
  refine ⟨_, kdItem.mkOwn (d := oneI nm) h1 h2 (fun i hi hi' => by simp at hi hi'; omega), fun i hi => ?_, (hx.trans (Ext.alloc _ _)).trans (Ext.alloc _ _)⟩
  simp at hi
  omega

end Go.Proofs.YtiohjcadmahkgaaGreat
