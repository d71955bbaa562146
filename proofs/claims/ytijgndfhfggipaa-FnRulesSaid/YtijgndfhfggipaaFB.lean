/- Plain laws on rules: counts and room, the rules that are broken, families. -/
import Derived.Test.YtijgndfhfggipaaGZ
namespace Go.Proofs.Ytijgndfhfggipaa
open Go.RowKit Go.Sort
set_option linter.unusedVariables false

theorem fc_step (d : CoD) {xs : List ItD} {k : Nat} {x : ItD} (h : xs[k]? = some x) : (fcL d xs (k + 1)).sum ≤ (fcL d xs k).sum + 1 := by
  unfold fcL
  simp only [show List.range 5 = [0, 1, 2, 3, 4] from rfl, List.map_cons, List.map_nil, List.sum_cons, List.sum_nil, famCnt_succ d h]
  generalize famI d x = y
  simp only [beq_iff_eq]
  by_cases h0 : y = ((0 : Nat) : Int)
  · subst h0; simp; omega
  by_cases h1 : y = ((1 : Nat) : Int)
  · subst h1; simp; omega
  by_cases h2 : y = ((2 : Nat) : Int)
  · subst h2; simp; omega
  by_cases h3 : y = ((3 : Nat) : Int)
  · subst h3; simp; omega
  rw [if_neg h0, if_neg h1, if_neg h2, if_neg h3]
  split <;> omega
theorem fc_sum (d : CoD) (xs : List ItD) : ∀ k, k ≤ xs.length → (fcL d xs k).sum ≤ k := by
  intro k
  induction k with
  | zero => intro _; rw [fcL_zero]; decide
  | succ k ih =>
    intro hk
    have h1 := fc_step d (List.getElem?_eq_getElem (show k < xs.length by omega))
    have h2 := ih (by omega)
    omega
theorem has_broken (d : CoD) (xs : List ItD) (r : Nat) (hr : r < 8) : (brokenF d xs).contains ((r : Int) + 1) = !ruleB d xs ((r : Int) + 1) := by
  rw [Bool.eq_iff_iff, List.contains_iff_mem]
  unfold brokenF brokenN
  rw [List.mem_filter]
  constructor
  · exact fun h => h.2
  · exact fun h => ⟨List.mem_map.2 ⟨r, List.mem_range.2 hr, rfl⟩, h⟩
theorem late_rule (xs : List ItD) : lateB (lateL xs) = true := by
  unfold lateB
  rw [List.all_eq_true]
  intro i hi
  rw [List.mem_range, lateL_len] at hi
  have h := lateL_at xs i hi
  rw [getD_some h, lateL_len]
  simp [lateD]
/-! ### What the functions answer -/
def holdsLaw (d : CoD) (xs : List ItD) (r : Int) : Bool × Bool := if codeB d && itemsB xs && inB 1 8 r then (ruleB d xs r, true) else (false, false)
def countLaw (d : CoD) (xs : List ItD) : List Int × Bool := if codeB d && itemsB xs then (fcL d xs xs.length, true) else ([], false)
def roomL (d : CoD) (xs : List ItD) (k : Nat) : List Int := (List.range 5).map (fun f => if f < k then d.2.1.getD f 0 - (fcL d xs xs.length).getD f 0 else (fcL d xs xs.length).getD f 0)
def roomLaw (d : CoD) (xs : List ItD) : List Int × Bool := if codeB d && itemsB xs then (roomL d xs 5, true) else ([], false)
def famOf (d : CoD) (x : ItD) : Int × Bool := if codeB d && itemB x && decide (0 ≤ famI d x) then (famI d x, true) else (0, false)
def famIt (d : CoD) (x : ItD) : Int × Bool := if codeB d && itemB x && knownI d.1 x then (familyF d x, true) else (0, false)
def lateLaw (xs : List ItD) : List ItD × Bool := if itemsB xs then (lateL xs, true) else ([], false)
theorem fam_same {d : CoD} {x : ItD} (h : (famOf d x).2 = true) (h2 : (famIt d x).2 = true) : (famIt d x).1 = (famOf d x).1 := by
  unfold famOf at h ⊢
  unfold famIt at h2 ⊢
  split at h
  · next q =>
    split at h2
    · next q2 =>
      rw [if_pos q, if_pos q2]
      simp only [Bool.and_eq_true, decide_eq_true_eq] at q
      have := q.2
      unfold famI at this ⊢
      split at this
      · omega
      · next hn => rw [if_neg hn]
    · simp at h2
  · simp at h
end Go.Proofs.Ytijgndfhfggipaa
