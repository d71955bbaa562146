/- CountSingles by the reference. -/
import Derived.Test.YtcnpbaldnhfebaaPL
namespace Go.Proofs.Ytcnpbaldnhfebaa
open Go.RowKit Go.Sort
set_option linter.unusedVariables false

def famC (d : CoD) (f i : Nat) : Nat := cntF (famE d) f (List.range i)
theorem famC_succ (d : CoD) (f i : Nat) : famC d f (i + 1) = famC d f i + (if famE d i = f then 1 else 0) := by
  unfold famC
  rw [List.range_succ, cntF_snoc]
theorem famC_le (d : CoD) (f i : Nat) : famC d f i ≤ i := by
  unfold famC cntF
  have := List.length_filter_le (fun i => famE d i == f) (List.range i)
  rwa [List.length_range] at this
/-- The row of one family while an element is taken in: from behind. -/
def stepB (c k x : Nat) : Nat := if k < x then bin (c + 1) x else bin c x
theorem stepB_start {c n x : Nat} (h : x ≤ n) : stepB c n x = bin c x := by unfold stepB; rw [if_neg (by omega)]
theorem stepB_end (c x : Nat) : stepB c 0 x = bin (c + 1) x := by
  unfold stepB
  split
  · rfl
  · have : x = 0 := by omega
    subst this
    rw [bin_zero, bin_zero]
theorem stepB_other {c k x : Nat} (h : x ≠ k + 1) : stepB c k x = stepB c (k + 1) x := by
  unfold stepB
  by_cases h1 : k + 1 < x
  · rw [if_pos (by omega), if_pos h1]
  · rw [if_neg (by omega), if_neg h1]
theorem stepB_at (c k : Nat) : stepB c k (k + 1) = stepB c (k + 1) (k + 1) + stepB c (k + 1) k := by
  unfold stepB
  rw [if_pos (by omega), if_neg (by omega), if_neg (by omega), bin_succ]
  omega
theorem stepB_le {c : Nat} (h : c < 24) (k x : Nat) : stepB c k x ≤ 16777216 := by
  unfold stepB
  split
  · exact bin24 (by omega) _
  · exact bin24 (by omega) _
/-- The next row while the reference works. -/
def nextP (g : Nat → Nat) (p : Nat) (k x : Nat) : Nat := if x < k then g x else if x = k then p else 0

end Go.Proofs.Ytcnpbaldnhfebaa
