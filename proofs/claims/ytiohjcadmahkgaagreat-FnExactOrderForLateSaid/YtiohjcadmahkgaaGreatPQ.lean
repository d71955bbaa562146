/- The insertion sort of the library is a stable insertion. -/
import Derived.Test.YtiohjcadmahkgaaGreatPN
import Derived.Sort.Defs
namespace Go.Proofs.YtiohjcadmahkgaaGreat
set_option linter.unusedVariables false

section
variable {α : Type} [Inhabited α] (lt : α → α → Bool)
/-- Where an element goes: behind the last of the first k that is not greater. -/
def posS (out : List α) (y : α) : Nat → Nat
  | 0 => 0
  | k + 1 => if lt y (out.getD k default) then posS out y k else k + 1
def insAt (out : List α) (y : α) (p : Nat) : List α := out.take p ++ y :: out.drop p
def insS (out : List α) (y : α) : List α := insAt out y (posS lt out y out.length)
def sortS (xs : List α) : List α := xs.foldl (insS lt) []
theorem posS_le (out : List α) (y : α) (k : Nat) : posS lt out y k ≤ k := by
  induction k with
  | zero => exact Nat.le_refl _
  | succ k ih => unfold posS; split <;> omega
theorem posS_snoc (out : List α) (z y : α) (k : Nat) (hk : k ≤ out.length) : posS lt (out ++ [z]) y k = posS lt out y k := by
  induction k with
  | zero => rfl
  | succ k ih =>
    unfold posS
    rw [ih (by omega), List.getD_eq_getElem?_getD, List.getElem?_append_left (by omega), ← List.getD_eq_getElem?_getD]
omit [Inhabited α] in
theorem insAt_len (out : List α) (y : α) (p : Nat) : (insAt out y p).length = out.length + 1 := by
  unfold insAt
  rw [List.length_append, List.length_cons, List.length_take, List.length_drop]
  omega
theorem insS_len (out : List α) (y : α) : (insS lt out y).length = out.length + 1 := insAt_len _ _ _
theorem insInner_list : ∀ (j : Nat) (out : List α) (y : α) (rest : List α), out.length = j →
    Go.Sort.insInner lt 0 j (out ++ y :: rest).toArray = (insAt out y (posS lt out y j) ++ rest).toArray
  | 0, out, y, rest, h => by
    have : out = [] := List.eq_nil_of_length_eq_zero h
    subst this
    rfl
  | j + 1, out, y, rest, h => by
    obtain ⟨o, z, rfl⟩ : ∃ o z, out = o ++ [z] := by
      have hne : out ≠ [] := by intro e; subst e; simp at h
      exact ⟨out.dropLast, out.getLast hne, (List.dropLast_concat_getLast hne).symm⟩
    have ho : o.length = j := by simpa using h
    have e1 : ((o ++ [z]) ++ y :: rest).toArray[j + 1]! = y := by
      rw [List.getElem!_toArray, getElem!_def, List.getElem?_append_right (by simp; omega)]
      simp [ho]
    have e0 : ((o ++ [z]) ++ y :: rest).toArray[j]! = z := by
      rw [List.getElem!_toArray, getElem!_def, List.getElem?_append_left (by simp; omega), List.getElem?_append_right (by omega)]
      simp [ho]
    have ez : (o ++ [z]).getD j default = z := by
      rw [List.getD_eq_getElem?_getD, List.getElem?_append_right (by omega)]
      simp [ho]
    unfold Go.Sort.insInner
    rw [e1, e0]
    unfold posS
    rw [ez]
    cases hl : lt y z
    · simp only [Bool.and_false, Bool.false_eq_true, if_false]
      congr 1
      unfold insAt
      rw [List.take_of_length_le (by simp; omega), List.drop_eq_nil_of_le (by simp; omega)]
      simp
    · simp only [Bool.and_true, if_true, gt_iff_lt, Nat.zero_lt_succ, decide_true]
      have hs : Go.Sort.swp ((o ++ [z]) ++ y :: rest).toArray (j + 1) j = (o ++ y :: z :: rest).toArray := by
        unfold Go.Sort.swp
        rw [e0, e1]
        apply Array.ext'
        rw [Array.toList_setIfInBounds, Array.toList_setIfInBounds]
        show ((o ++ [z] ++ y :: rest).set (j + 1) z).set j y = o ++ y :: z :: rest
        rw [List.append_assoc, List.set_append_right _ _ (by omega), ho, show j + 1 - j = 1 by omega, List.set_append_right _ _ (by omega), ho, Nat.sub_self]
        rfl
      rw [hs, insInner_list j o y (z :: rest) ho, posS_snoc lt o z y j (by omega)]
      congr 1
      unfold insAt
      have hp := posS_le lt o y j
      rw [List.take_append_of_le_length (by omega), List.drop_append_of_le_length (by omega)]
      simp
theorem insOuter_list (xs : List α) : ∀ (m k : Nat), xs.length - k = m → 1 ≤ k → k ≤ xs.length →
    Go.Sort.insOuter lt 0 xs.length k (sortS lt (xs.take k) ++ xs.drop k).toArray = (sortS lt xs).toArray := by
  have hlen : ∀ ys : List α, (sortS lt ys).length = ys.length := fun ys => by
    have : ∀ (ys out : List α), (ys.foldl (insS lt) out).length = out.length + ys.length := by
      intro ys
      induction ys with
      | nil => intro out; simp
      | cons y t ih => intro out; rw [List.foldl_cons, ih, insS_len]; simp; omega
    rw [sortS, this]
    simp
  intro m
  induction m with
  | zero =>
    intro k hm h1 hk
    have : k = xs.length := by omega
    subst this
    unfold Go.Sort.insOuter
    rw [if_neg (by omega), List.take_length, List.drop_length, List.append_nil]
  | succ m ih =>
    intro k hm h1 hk
    have hlt : k < xs.length := by omega
    unfold Go.Sort.insOuter
    rw [if_pos hlt, List.drop_eq_getElem_cons hlt, insInner_list lt k _ _ _ (by rw [hlen, List.length_take]; omega)]
    have e : insAt (sortS lt (xs.take k)) xs[k] (posS lt (sortS lt (xs.take k)) xs[k] k) = sortS lt (xs.take (k + 1)) := by
      rw [List.take_succ_eq_append_getElem hlt]
      show _ = (xs.take k ++ [xs[k]]).foldl (insS lt) []
      rw [List.foldl_append]
      show _ = insS lt (sortS lt (xs.take k)) xs[k]
      unfold insS
      rw [hlen, List.length_take, Nat.min_eq_left (by omega)]
    rw [e]
    exact ih (k + 1) (by omega) (by omega) hlt
/-- The library's insertion sort of a whole list. -/
theorem insertionSort_list (xs : List α) : Go.Sort.insertionSort lt xs.toArray 0 xs.length = (sortS lt xs).toArray := by
  unfold Go.Sort.insertionSort
  cases xs with
  | nil => unfold Go.Sort.insOuter; rfl
  | cons x t =>
    have h := insOuter_list lt (x :: t) t.length 1 (by simp) (Nat.le_refl _) (by simp)
    exact h
end
end Go.Proofs.YtiohjcadmahkgaaGreat
