/- Repeats, bases of items, bases of lists. -/
import Derived.Test.YtofmfagdaiphaaaGR
namespace Go.Proofs.Ytofmfagdaiphaaa
open Go.RowKit Go.Sort
set_option linter.unusedVariables false

theorem get_ex {α : Type} (xs : List α) (k : Nat) (h : k < xs.length) : ∃ x, Hid (xs[k]? = some x) := ⟨xs[k], List.getElem?_eq_getElem h⟩
def repP (y x : ItD) : Bool := (x.1.getD 0 [] == y.1.getD 0 []) && !(x.2.1.getD 0 0 == 3)
def repN (xs : List ItD) (y : ItD) (j : Nat) : Nat := ((xs.take j).filter (repP y)).length
def repF (xs : List ItD) (k : Nat) : Nat := repN xs (xs.getD k noItem) k
theorem repN_succ {xs : List ItD} {j : Nat} {x : ItD} (hx : xs[j]? = some x) (y : ItD) : repN xs y (j + 1) = repN xs y j + (if repP y x then 1 else 0) := by
  obtain ⟨hj, rfl⟩ := List.getElem?_eq_some_iff.1 hx
  unfold repN
  rw [List.take_succ_eq_append_getElem hj, List.filter_append, List.length_append]
  congr 1
  by_cases h : repP y xs[j] <;> simp [h]
theorem repN_le (xs : List ItD) (y : ItD) (j : Nat) : repN xs y j ≤ j := by
  unfold repN
  have h1 := List.length_filter_le (repP y) (xs.take j)
  have h2 := List.length_take_le j xs
  omega
def baseF (d : CoD) (xs : List ItD) (k : Nat) : Int := if (repF xs k : Int) < d.2.2.1 then fullF d (xs.getD k noItem) else if (repF xs k : Int) = d.2.2.1 then fullF d (xs.getD k noItem) * 7 / 10 else 0
def basesN (d : CoD) (xs : List ItD) (k : Nat) : List Int := (List.range k).map (baseF d xs)
def basesF (d : CoD) (xs : List ItD) : List Int := basesN d xs xs.length
theorem basesN_succ (d : CoD) (xs : List ItD) (k : Nat) : basesN d xs (k + 1) = basesN d xs k ++ [baseF d xs k] := by simp [basesN, List.range_succ]
theorem basesN_len (d : CoD) (xs : List ItD) (k : Nat) : (basesN d xs k).length = k := by simp [basesN]
/-- A list whose items are valid and known. -/
structure LsOk (d : CoD) (xs : List ItD) : Prop where
  n : xs.length ≤ 14
  it : ∀ (k : Nat) (x : ItD), xs[k]? = some x → ItOk d x
theorem lsOk {d : CoD} {xs : List ItD} (h : itemsB xs = true) (h1 : knownB d.1 xs = true) : LsOk d xs := by
  simp only [itemsB, Bool.and_eq_true, List.all_eq_true, decide_eq_true_eq] at h
  simp only [knownB, List.all_eq_true] at h1
  exact ⟨by omega, fun k x hx => itOk (h.1 x (List.mem_of_getElem? hx)) (h1 x (List.mem_of_getElem? hx))⟩
theorem baseF_bd {d : CoD} (hd : CodeOk d) {xs : List ItD} (ho : LsOk d xs) (k : Nat) : 0 ≤ baseF d xs k ∧ baseF d xs k ≤ 10000 := by
  have h : 0 ≤ fullF d (xs.getD k noItem) ∧ fullF d (xs.getD k noItem) ≤ 10000 := by
    refine fullF_bd hd _ ?_
    cases hx : xs[k]? with
    | none => rw [List.getD_eq_getElem?_getD, hx]; decide
    | some x => rw [getD_some hx]; exact (ho.it k x hx).n3
  unfold baseF
  split
  · exact h
  · split <;> omega
theorem basesN_bd {d : CoD} (hd : CodeOk d) {xs : List ItD} (ho : LsOk d xs) (k : Nat) : ∀ z ∈ basesN d xs k, 0 ≤ z ∧ z ≤ 10000 := by
  intro z hz
  obtain ⟨i, _, rfl⟩ := List.mem_map.1 hz
  exact baseF_bd hd ho i

end Go.Proofs.Ytofmfagdaiphaaa
