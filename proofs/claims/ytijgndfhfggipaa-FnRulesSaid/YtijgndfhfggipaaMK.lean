/- The reference's copy of marks. -/
import Derived.Test.YtijgndfhfggipaaMJ
namespace Go.Proofs.Ytijgndfhfggipaa
open Go.RowKit Go.Sort
set_option linter.unusedVariables false

theorem row_src (w : World) (u : Value) (t : TypeId) : ∀ j v, [u][j]? = some v → (w.alloc (.cells #[u] t)).cell? ⟨w.heap.size, 0 + j, none⟩ = some v := by
  intro j v h
  cases j with
  | zero => simp at h; subst h; simp [World.cell?_alloc_at]
  | succ j => simp at h

end Go.Proofs.Ytijgndfhfggipaa
