/- Marks that have a judge; the marks of one judge. -/
import Derived.Test.YtijgndfhfggipaaML
import Derived.Test.YtijgndfhfggipaaGA
namespace Go.Proofs.Ytijgndfhfggipaa
open Go.RowKit Go.Sort
set_option linter.unusedVariables false

def hasJudge (d : MD) (j : Int) : Bool := marksB d && inB 0 ((judges d : Int) - 1) j
theorem marksB_ok {d : MD} (h : marksB d = true) : d.1.length ≤ 14 ∧ d.2.length = 3 ∧ 3 ≤ judges d ∧ judges d ≤ 9 ∧ (∀ x ∈ d.1, x.length = judges d ∧ ∀ z ∈ x, -5 ≤ z ∧ z ≤ 5) ∧ (∀ x ∈ d.2, x.length = judges d ∧ ∀ z ∈ x, 0 ≤ z ∧ z ≤ 1000 ∧ z.tmod 25 = 0) := by
  simp only [marksB, inB, okRow, okComp, compMark, Bool.and_eq_true, decide_eq_true_eq, List.all_eq_true, beq_iff_eq] at h
  obtain ⟨⟨⟨⟨h1, h2⟩, h3, h4⟩, h5⟩, h6⟩ := h
  exact ⟨h1, h2, by omega, by omega, fun x hx => ⟨(h5 x hx).1, fun z hz => (h5 x hx).2 z hz⟩, fun x hx => ⟨(h6 x hx).1, fun z hz => have h7 := (h6 x hx).2 z hz; ⟨h7.1.1, h7.1.2, h7.2⟩⟩⟩
theorem hasJudge_ok {d : MD} {j : Int} (h : hasJudge d j = true) : marksB d = true ∧ ∃ k : Nat, j = k ∧ k < judges d := by
  simp only [hasJudge, inB, Bool.and_eq_true, decide_eq_true_eq] at h
  exact ⟨h.1, j.toNat, by omega, by omega⟩
theorem rows_ok {d : MD} {k : Nat} (h : marksB d = true) (hk : k < judges d) : (∀ x ∈ d.1, k < x.length ∧ x.length ≤ 9) ∧ (∀ x ∈ d.2, k < x.length ∧ x.length ≤ 9) := by
  obtain ⟨_, _, _, h4, h5, h6⟩ := marksB_ok h
  exact ⟨fun x hx => by have := (h5 x hx).1; omega, fun x hx => by have := (h6 x hx).1; omega⟩

/-! ### The marks of a judge in some lists -/
def colF (xs : List (List Int)) (j : Nat) : List Int := xs.map (·.getD j 0)
theorem colF_len (xs : List (List Int)) (j : Nat) : (colF xs j).length = xs.length := by simp [colF]
theorem colF_succ {xs : List (List Int)} {j k : Nat} {x : List Int} (h : xs[k]? = some x) : (colF xs j).take (k + 1) = (colF xs j).take k ++ [x.getD j 0] := by
  obtain ⟨hk, rfl⟩ := List.getElem?_eq_some_iff.1 h
  rw [List.take_succ_eq_append_getElem (by rw [colF_len]; exact hk)]
  simp [colF]

end Go.Proofs.Ytijgndfhfggipaa
