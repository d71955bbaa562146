import Derived.Test.YtmckompikbechaaTF
import Derived.Test.YtmckompikbechaaT5
namespace Go.Proofs.Ytmckompikbechaa
open Go.RowKit
set_option linter.unusedVariables false

theorem good_ok {zs : List Int} (h : goodMarks zs = true) : 1 ≤ zs.length ∧ zs.length ≤ 9 ∧ (∀ z ∈ zs, -1000 ≤ z ∧ z ≤ 1000) ∧ Small zs := by
  simp only [goodMarks, inB, Bool.and_eq_true, decide_eq_true_eq] at h
  obtain ⟨⟨h1, h2⟩, h3⟩ := h
  have h4 := good_small (zs := zs) (by simpa [inB] using h3)
  exact ⟨by omega, by omega, h4, fun z hz => by have := h4 z hz; omega⟩
theorem sum_bd (zs : List Int) (h : ∀ z ∈ zs, -1000 ≤ z ∧ z ≤ 1000) : -(1000 * (zs.length : Int)) ≤ zs.sum ∧ zs.sum ≤ 1000 * (zs.length : Int) := by
  induction zs with
  | nil => simp
  | cons x a ih =>
    have h1 := h x (by simp)
    have h2 := ih (fun z hz => h z (by simp [hz]))
    simp only [List.sum_cons, List.length_cons]
    omega
theorem trim_bd {zs : List Int} (h : goodMarks zs = true) : -100000 ≤ (trimF zs).1 ∧ (trimF zs).1 ≤ 100000 ∧ 1 ≤ (trimF zs).2 ∧ (trimF zs).2 ≤ 9 := by
  obtain ⟨h1, h2, h3, h4⟩ := good_ok h
  obtain ⟨s1, s2⟩ := sum_bd zs h3
  have hne : zs ≠ [] := by rintro rfl; simp at h1
  have m1 := h3 _ (maxL_spec zs hne).1
  have m2 := h3 _ (minL_spec zs hne).1
  unfold trimF
  split <;> simp only <;> omega

def trimmedSumF (zs : List Int) : Int × Int × Bool := if goodMarks zs then ((trimF zs).1, (trimF zs).2, true) else (0, 0, false)
def trimmedMeanF (zs : List Int) : Int × Int × Bool := if goodMarks zs then ((lowF (trimF zs).1 (trimF zs).2).1, (lowF (trimF zs).1 (trimF zs).2).2, true) else (0, 0, false)
def trimmedPointsF (zs : List Int) (f p m : Int) : Int × Bool := if goodMarks zs && inB 0 10000 f && inB 1 1000 p && inB (-1) 1 m then (modeF ((trimF zs).1 * f) ((trimF zs).2 * p) m, true) else (0, false)

end Go.Proofs.Ytmckompikbechaa
