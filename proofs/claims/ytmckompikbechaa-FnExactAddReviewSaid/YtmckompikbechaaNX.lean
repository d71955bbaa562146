/- The call of a name. -/
import Derived.Test.YtmckompikbechaaNW
namespace Go.Proofs.Ytmckompikbechaa
open Go.RowKit Go.Sort
set_option linter.unusedVariables false

theorem voteF_first {vs : List (List (List Int))} {ix kx q : Nat} (hq : q < 4) (h : ∀ j : Nat, j < q → ¬ 2 ≤ countV vs ix kx (j : Int)) (h2 : 2 ≤ countV vs ix kx (q : Int)) : voteF vs ix kx = q := by
  unfold voteF
  rcases (by omega : q = 0 ∨ q = 1 ∨ q = 2 ∨ q = 3) with e | e | e | e <;> subst e
  · rw [if_pos (by simpa using h2)]; rfl
  · have h0 := h 0 (by omega)
    rw [if_neg (by simpa using h0), if_pos (by simpa using h2)]; rfl
  · have h0 := h 0 (by omega); have h1 := h 1 (by omega)
    rw [if_neg (by simpa using h0), if_neg (by simpa using h1), if_pos (by simpa using h2)]; rfl
  · have h0 := h 0 (by omega); have h1 := h 1 (by omega); have h3 := h 2 (by omega)
    rw [if_neg (by simpa using h0), if_neg (by simpa using h1), if_neg (by simpa using h3), if_pos (by simpa using h2)]; rfl
theorem voteF_none {vs : List (List (List Int))} {ix kx : Nat} (h : ∀ j : Nat, j < 4 → ¬ 2 ≤ countV vs ix kx (j : Int)) : voteF vs ix kx = -1 := by
  have h0 := h 0 (by omega); have h1 := h 1 (by omega); have h2 := h 2 (by omega); have h3 := h 3 (by omega)
  unfold voteF
  rw [if_neg (by simpa using h0), if_neg (by simpa using h1), if_neg (by simpa using h2), if_neg (by simpa using h3)]
/-- Where a vote lies. -/
theorem vote_cells {w : World} {B c ix kx : Nat} {A : Option Addr} {x : List (List Int)} (h : LR kdL w B A c x) (hi : ix < x.length) (hk : kx < (x.getD ix []).length) :
    ∃ b off A3 c3 b3 off3, A = some ⟨b, off, none⟩ ∧ w.cell? ⟨b, off + ix, none⟩ = some (.slice A3 (x.getD ix []).length c3) ∧ A3 = some ⟨b3, off3, none⟩ ∧ w.cell? ⟨b3, off3 + kx, none⟩ = some (.int .i64 (voteAt x ix kx)) ∧ (x.getD ix []).length ≤ c3 ∧ c3 ≤ 9223372036854775807 := by
  have hx : x[ix]? = some (x.getD ix []) := by rw [List.getD_eq_getElem?_getD, List.getElem?_eq_getElem hi]; rfl
  obtain ⟨b, off, A3, c3, rfl, hb, hc, hr⟩ := h.rowS ix _ hx
  obtain ⟨b3, off3, rfl, hb3, hc3⟩ := hr.sl.cells (by omega)
  exact ⟨b, off, _, c3, b3, off3, rfl, hc, rfl, hc3 kx hk, hr.1, hr.2.1⟩

end Go.Proofs.Ytmckompikbechaa
