/- Plain laws on lists of numbers, of no program: sums, greatest and least, the sorted list, fractions. -/
import Derived.Test.YtmckompikbechaaWords
namespace Go.Proofs.Ytmckompikbechaa
open Go.RowKit

/-! ### Sums -/
def Small (zs : List Int) : Prop := ∀ z ∈ zs, -1000000000 ≤ z ∧ z ≤ 1000000000
theorem sum_append (a b : List Int) : (a ++ b).sum = a.sum + b.sum := by
  induction a with
  | nil => simp
  | cons x a ih => simp [ih]; omega
theorem sum_bound (zs : List Int) (h : Small zs) : -(1000000000 * (zs.length : Int)) ≤ zs.sum ∧ zs.sum ≤ 1000000000 * (zs.length : Int) := by
  induction zs with
  | nil => simp
  | cons x a ih =>
    have h1 := h x (by simp)
    have h2 := ih (fun z hz => h z (by simp [hz]))
    simp only [List.sum_cons, List.length_cons]
    omega
theorem Small.take {zs : List Int} (h : Small zs) (k : Nat) : Small (zs.take k) := fun z hz => h z (List.mem_of_mem_take hz)
theorem Small.getD {zs : List Int} (h : Small zs) (k : Nat) : -1000000000 ≤ zs.getD k 0 ∧ zs.getD k 0 ≤ 1000000000 := by
  by_cases hk : k < zs.length
  · have := h zs[k] (List.getElem_mem hk)
    simpa [List.getElem?_eq_getElem hk] using this
  · simp [List.getElem?_eq_none (Nat.le_of_not_lt hk)]
theorem sum_take_succ (zs : List Int) (k : Nat) (h : k < zs.length) : (zs.take (k + 1)).sum = (zs.take k).sum + zs.getD k 0 := by
  rw [take_succ_getD k h, sum_append]; simp
theorem sum_take_bound (zs : List Int) (k n : Nat) (h : Small zs) (hk : k ≤ n) (hn : n ≤ 1048576) : -1048576000000000 ≤ (zs.take k).sum ∧ (zs.take k).sum ≤ 1048576000000000 := by
  have h1 := sum_bound _ (h.take k)
  have h2 : (zs.take k).length ≤ k := List.length_take_le _ _
  omega
theorem sum_take_all (zs : List Int) (k : Nat) (h : ¬ k < zs.length) : (zs.take k).sum = zs.sum := by rw [List.take_of_length_le (by omega)]

/-! ### Greatest and least -/
def maxL (zs : List Int) : Int := zs.foldl max (zs.headD 0)
def minL (zs : List Int) : Int := zs.foldl min (zs.headD 0)
def maxTo (zs : List Int) (k : Nat) : Int := (zs.take k).foldl max (zs.headD 0)
def minTo (zs : List Int) (k : Nat) : Int := (zs.take k).foldl min (zs.headD 0)
theorem maxTo_one (zs : List Int) (h : 0 < zs.length) : maxTo zs 1 = zs.getD 0 0 := by
  cases zs with
  | nil => simp at h
  | cons x a => simp [maxTo, Int.max_self]
theorem minTo_one (zs : List Int) (h : 0 < zs.length) : minTo zs 1 = zs.getD 0 0 := by
  cases zs with
  | nil => simp at h
  | cons x a => simp [minTo, Int.min_self]
theorem maxTo_succ (zs : List Int) (k : Nat) (h : k < zs.length) : maxTo zs (k + 1) = max (maxTo zs k) (zs.getD k 0) := by
  unfold maxTo; rw [take_succ_getD k h, List.foldl_append]; rfl
theorem minTo_succ (zs : List Int) (k : Nat) (h : k < zs.length) : minTo zs (k + 1) = min (minTo zs k) (zs.getD k 0) := by
  unfold minTo; rw [take_succ_getD k h, List.foldl_append]; rfl
theorem maxTo_all (zs : List Int) (k : Nat) (h : ¬ k < zs.length) : maxTo zs k = maxL zs := by unfold maxTo maxL; rw [List.take_of_length_le (by omega)]
theorem minTo_all (zs : List Int) (k : Nat) (h : ¬ k < zs.length) : minTo zs k = minL zs := by unfold minTo minL; rw [List.take_of_length_le (by omega)]
theorem foldl_max_ge (zs : List Int) (a : Int) : a ≤ zs.foldl max a ∧ (∀ z ∈ zs, z ≤ zs.foldl max a) ∧ (zs.foldl max a = a ∨ zs.foldl max a ∈ zs) := by
  induction zs generalizing a with
  | nil => simp
  | cons x t ih =>
    obtain ⟨h1, h2, h3⟩ := ih (max a x)
    simp only [List.foldl_cons, List.mem_cons]
    refine ⟨by omega, ?_, ?_⟩
    · rintro z (rfl | hz)
      · omega
      · exact h2 z hz
    · rcases h3 with h3 | h3
      · by_cases hx : a ≤ x
        · exact .inr (.inl (by omega))
        · exact .inl (by omega)
      · exact .inr (.inr h3)
theorem foldl_min_le (zs : List Int) (a : Int) : zs.foldl min a ≤ a ∧ (∀ z ∈ zs, zs.foldl min a ≤ z) ∧ (zs.foldl min a = a ∨ zs.foldl min a ∈ zs) := by
  induction zs generalizing a with
  | nil => simp
  | cons x t ih =>
    obtain ⟨h1, h2, h3⟩ := ih (min a x)
    simp only [List.foldl_cons, List.mem_cons]
    refine ⟨by omega, ?_, ?_⟩
    · rintro z (rfl | hz)
      · omega
      · exact h2 z hz
    · rcases h3 with h3 | h3
      · by_cases hx : a ≤ x
        · exact .inl (by omega)
        · exact .inr (.inl (by omega))
      · exact .inr (.inr h3)
theorem maxL_spec (zs : List Int) (h : zs ≠ []) : maxL zs ∈ zs ∧ ∀ z ∈ zs, z ≤ maxL zs := by
  cases zs with
  | nil => exact absurd rfl h
  | cons x t =>
    obtain ⟨h1, h2, h3⟩ := foldl_max_ge (x :: t) x
    refine ⟨?_, h2⟩
    rcases h3 with h3 | h3
    · show List.foldl max x (x :: t) ∈ _; rw [h3]; simp
    · exact h3
theorem minL_spec (zs : List Int) (h : zs ≠ []) : minL zs ∈ zs ∧ ∀ z ∈ zs, minL zs ≤ z := by
  cases zs with
  | nil => exact absurd rfl h
  | cons x t =>
    obtain ⟨h1, h2, h3⟩ := foldl_min_le (x :: t) x
    refine ⟨?_, h2⟩
    rcases h3 with h3 | h3
    · show List.foldl min x (x :: t) ∈ _; rw [h3]; simp
    · exact h3

/-! ### The list with the greatest first, by insertion -/
/-- Where a number is inserted: behind the last that is not less, looked for from place k down. -/
def posD (out : List Int) (n : Int) : Nat → Nat
  | 0 => 0
  | k + 1 => if out.getD k 0 < n then posD out n k else k + 1
theorem posD_le (out : List Int) (n : Int) (k : Nat) : posD out n k ≤ k := by
  induction k with
  | zero => exact Nat.le_refl _
  | succ k ih => unfold posD; split <;> omega
theorem posD_lt (out : List Int) (n : Int) (k i : Nat) (h1 : posD out n k ≤ i) (h2 : i < k) : out.getD i 0 < n := by
  induction k with
  | zero => omega
  | succ k ih =>
    unfold posD at h1
    split at h1
    · by_cases hi : i = k
      · subst hi; assumption
      · exact ih h1 (by omega)
    · omega
theorem posD_ge (out : List Int) (n : Int) (k : Nat) (h : 0 < posD out n k) : n ≤ out.getD (posD out n k - 1) 0 := by
  induction k with
  | zero => simp [posD] at h
  | succ k ih =>
    unfold posD at h ⊢
    split
    · rename_i hc; rw [if_pos hc] at h; exact ih h
    · simp; rename_i hc; simpa using hc
def insD (out : List Int) (n : Int) : List Int := out.take (posD out n out.length) ++ n :: out.drop (posD out n out.length)
def sortD (zs : List Int) : List Int := zs.foldl insD []
theorem insD_perm (out : List Int) (n : Int) : (insD out n).Perm (n :: out) := by
  unfold insD
  refine List.perm_middle.trans (List.Perm.cons _ ?_)
  rw [List.take_append_drop]
theorem insD_len (out : List Int) (n : Int) : (insD out n).length = out.length + 1 := by simpa using (insD_perm out n).length_eq
theorem insD_sorted (out : List Int) (n : Int) (h : out.Pairwise (· ≥ ·)) : (insD out n).Pairwise (· ≥ ·) := by
  have hp := posD_le out n out.length
  unfold insD
  rw [List.pairwise_append]
  have hsub := List.pairwise_iff_getElem.1 h
  refine ⟨h.sublist (List.take_sublist _ _), ?_, ?_⟩
  · rw [List.pairwise_cons]
    refine ⟨?_, h.sublist (List.drop_sublist _ _)⟩
    intro a ha
    obtain ⟨i, hi, rfl⟩ := List.getElem_of_mem ha
    simp only [List.length_drop] at hi
    have := posD_lt out n out.length (posD out n out.length + i) (by omega) (by omega)
    simp [List.getElem?_eq_getElem (show posD out n out.length + i < out.length by omega)] at this
    simp
    omega
  · intro a ha b hb
    obtain ⟨i, hi, rfl⟩ := List.getElem_of_mem ha
    simp only [List.length_take] at hi
    have hpos : 0 < posD out n out.length := by omega
    have hge := posD_ge out n out.length hpos
    simp [List.getElem?_eq_getElem (show posD out n out.length - 1 < out.length by omega)] at hge
    have hle : out[posD out n out.length - 1]'(by omega) ≤ out[i]'(by omega) := by
      by_cases he : i = posD out n out.length - 1
      · subst he; exact Int.le_refl _
      · exact hsub i (posD out n out.length - 1) (by omega) (by omega) (by omega)
    have hna : n ≤ out[i]'(by omega) := Int.le_trans hge hle
    simp only [List.getElem_take]
    rcases List.mem_cons.1 hb with rfl | hb
    · exact hna
    · obtain ⟨j, hj, rfl⟩ := List.getElem_of_mem hb
      simp only [List.length_drop] at hj
      simp only [List.getElem_drop]
      exact hsub i (posD out n out.length + j) (by omega) (by omega) (by omega)
theorem foldl_insD (zs out : List Int) (h : out.Pairwise (· ≥ ·)) : (zs.foldl insD out).Pairwise (· ≥ ·) ∧ (zs.foldl insD out).Perm (zs ++ out) := by
  induction zs generalizing out with
  | nil => exact ⟨h, List.Perm.refl _⟩
  | cons x t ih =>
    obtain ⟨h1, h2⟩ := ih (insD out x) (insD_sorted out x h)
    refine ⟨h1, h2.trans ?_⟩
    refine (List.Perm.append_left t (insD_perm out x)).trans ?_
    exact List.perm_middle
theorem sortD_sorted (zs : List Int) : (sortD zs).Pairwise (· ≥ ·) := (foldl_insD zs [] List.Pairwise.nil).1
theorem sortD_perm (zs : List Int) : (sortD zs).Perm zs := by simpa [sortD] using (foldl_insD zs [] List.Pairwise.nil).2
theorem sortD_len (zs : List Int) : (sortD zs).length = zs.length := (sortD_perm zs).length_eq
theorem sortD_take_succ (zs : List Int) (k : Nat) (h : k < zs.length) : sortD (zs.take (k + 1)) = insD (sortD (zs.take k)) (zs.getD k 0) := by
  unfold sortD; rw [take_succ_getD k h, List.foldl_append]; rfl
theorem sortD_head (zs : List Int) (h : zs ≠ []) : (sortD zs).getD 0 0 = maxL zs := by
  have hl := sortD_len zs
  have hp : 0 < zs.length := List.length_pos_iff.2 h
  have hs := List.pairwise_iff_getElem.1 (sortD_sorted zs)
  obtain ⟨h1, h2⟩ := maxL_spec zs h
  have hm : (sortD zs)[0]'(by omega) ∈ zs := (sortD_perm zs).mem_iff.1 (List.getElem_mem _)
  obtain ⟨i, hi, he⟩ := List.getElem_of_mem ((sortD_perm zs).mem_iff.2 h1)
  have h3 : maxL zs ≤ (sortD zs)[0]'(by omega) := by
    rw [← he]
    by_cases h0 : i = 0
    · subst h0; exact Int.le_refl _
    · exact hs 0 i (by omega) hi (by omega)
  have h4 := h2 _ hm
  simp [List.getElem?_eq_getElem (show 0 < (sortD zs).length by omega)]
  omega
theorem sortD_last (zs : List Int) (h : zs ≠ []) : (sortD zs).getD (zs.length - 1) 0 = minL zs := by
  have hl := sortD_len zs
  have hp : 0 < zs.length := List.length_pos_iff.2 h
  have hs := List.pairwise_iff_getElem.1 (sortD_sorted zs)
  obtain ⟨h1, h2⟩ := minL_spec zs h
  have hm : (sortD zs)[zs.length - 1]'(by omega) ∈ zs := (sortD_perm zs).mem_iff.1 (List.getElem_mem _)
  obtain ⟨i, hi, he⟩ := List.getElem_of_mem ((sortD_perm zs).mem_iff.2 h1)
  have h3 : (sortD zs)[zs.length - 1]'(by omega) ≤ minL zs := by
    rw [← he]
    by_cases h0 : i = zs.length - 1
    · subst h0; exact Int.le_refl _
    · exact hs i (zs.length - 1) hi (by omega) (by omega)
  have h4 := h2 _ hm
  simp [List.getElem?_eq_getElem (show zs.length - 1 < (sortD zs).length by omega)]
  omega

/-! ### Fractions -/
def gcdI (a b : Int) : Nat := Nat.gcd a.natAbs b.natAbs
/-- In lowest terms, for b > 0. -/
def lowF (a b : Int) : Int × Int := (a.tdiv (gcdI a b), b / (gcdI a b))
/-- A quotient rounded by a mode. -/
def modeF (a b mode : Int) : Int := if mode = -1 then a / b else if mode = 0 then (2 * a + b) / (2 * b) else -((-a) / b)

/-! ### Trimmed sums -/
def trimF (zs : List Int) : Int × Int := if zs.length < 5 then (zs.sum, zs.length) else (zs.sum - maxL zs - minL zs, (zs.length : Int) - 2)
end Go.Proofs.Ytmckompikbechaa
