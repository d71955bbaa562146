import Derived.Test.YtmckompikbechaaTE
namespace Go.Proofs.Ytmckompikbechaa
open Go.RowKit
set_option linter.unusedVariables false

/-- Numbers that are added up without harm. -/
theorem good_small {zs : List Int} (h : zs.all (inB (-1000) 1000) = true) : ∀ z ∈ zs, -1000 ≤ z ∧ z ≤ 1000 := by
  intro z hz
  have := List.all_eq_true.1 h z hz
  simpa [inB] using this
theorem maxL_small {zs : List Int} (h : Small zs) : -1000000000 ≤ maxL zs ∧ maxL zs ≤ 1000000000 := by
  cases zs with
  | nil => simp [maxL]
  | cons x t => exact h _ (maxL_spec (x :: t) (by simp)).1
theorem minL_small {zs : List Int} (h : Small zs) : -1000000000 ≤ minL zs ∧ minL zs ≤ 1000000000 := by
  cases zs with
  | nil => simp [minL]
  | cons x t => exact h _ (minL_spec (x :: t) (by simp)).1

end Go.Proofs.Ytmckompikbechaa
