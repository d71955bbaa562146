/- Marks: what the laws' helpers do with them. -/
import Derived.Test.YtijgndfhfggipaaGB
namespace Go.Proofs.Ytijgndfhfggipaa
open Go.RowKit Go.Sort
set_option linter.unusedVariables false

def kdM : Kd (List (List Int) × List (List Int)) := kdPair kdLL kdLL
/-- Marks, as they lie in a value. -/
theorem kdM.open_ {w : World} {B : Nat} {vs : List Value} {d : List (List Int) × List (List Int)} (h : kdM.rd w B vs d) : ∃ A c A' c', vs = [.slice A d.1.length c, .slice A' d.2.length c'] ∧ LR kdL w B A c d.1 ∧ LR kdL w B A' c' d.2 := by
  obtain ⟨v1, v2, rfl, ⟨A, c, rfl, h1⟩, ⟨A', c', rfl, h2⟩⟩ := h
  exact ⟨A, c, A', c', rfl, h1, h2⟩
theorem kdM.val2 (a b : Value) : kdM.val [a, b] = .agg #[a, b] := rfl

end Go.Proofs.Ytijgndfhfggipaa
