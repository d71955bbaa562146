/- What a replaced item gains, plainly. -/
import Derived.Test.YtiohjcadmahkgaaGreatPQ
namespace Go.Proofs.YtiohjcadmahkgaaGreat
open Go.RowKit Go.Sort
set_option linter.unusedVariables false

/-- An item of one name. -/
def oneI (nm : List UInt8) : ItD := ([nm], [0], false)
def replL (xs : List ItD) (k : Nat) (nm : List UInt8) : List ItD := lateL (xs.set k (oneI nm))
def gainV (d : CoD) (xs ys : List ItD) : Int := (basesF d ys).sum - (basesF d xs).sum
def gainF (d : CoD) (xs : List ItD) (k : Int) (nm : List UInt8) : Int × Bool :=
  if progB d xs && inB 0 ((xs.length : Int) - 1) k && progB d (replL xs k.toNat nm) then (gainV d xs (replL xs k.toNat nm), true) else (0, false)
theorem lateL_at (xs : List ItD) (k : Nat) (h : k < xs.length) : (lateL xs)[k]? = some (lateD xs.length k xs[k]) := by
  unfold lateL
  rw [List.getElem?_map, List.getElem?_range h, Option.map_some, List.getD_eq_getElem?_getD, List.getElem?_eq_getElem h, Option.getD_some]
theorem replL_len (xs : List ItD) (k : Nat) (nm : List UInt8) : (replL xs k nm).length = xs.length := by
  unfold replL
  rw [lateL_len, List.length_set]
theorem replL_at {xs : List ItD} {k : Nat} (nm : List UInt8) (h : k < xs.length) : (replL xs k nm)[k]? = some ([nm], [0], decide ((xs.length : Int) ≤ 2 * (k : Int))) := by
  unfold replL
  rw [lateL_at _ _ (by rw [List.length_set]; exact h), List.getElem_set_self, List.length_set]
  rfl
theorem progB_rule {d : CoD} {xs : List ItD} (h : progB d xs = true) (r : Nat) (hr : r < 8) : ruleB d xs ((r : Int) + 1) = true := by
  unfold progB at h
  simp only [Bool.and_eq_true, decide_eq_true_eq] at h
  exact brokenF_nil.1 (by have := h.2; omega) r hr
theorem progB_known {d : CoD} {xs : List ItD} (h : progB d xs = true) : knownB d.1 xs = true := progB_rule h 1 (by decide)
theorem progB_code {d : CoD} {xs : List ItD} (h : progB d xs = true) : codeB d = true ∧ itemsB xs = true := by
  unfold progB at h
  simp only [Bool.and_eq_true] at h
  exact h.1
/-- A replaced programme knows the name. -/
theorem repl_known {d : CoD} {xs : List ItD} {k : Nat} {nm : List UInt8} (hk : k < xs.length) (h : progB d (replL xs k nm) = true) : 0 ≤ findF d.1 nm := by
  have h1 := progB_known h
  unfold knownB at h1
  rw [List.all_eq_true] at h1
  have h2 := h1 _ (List.mem_of_getElem? (replL_at nm hk))
  simpa [knownI] using h2
/-- A known name is a name, and is that of its element. -/
theorem find_name {d : CoD} {nm : List UInt8} (hc : codeB d = true) (h : 0 ≤ findF d.1 nm) : nameB nm = true ∧ (d.1.getD (findF d.1 nm).toNat noEl).1 = nm := by
  obtain ⟨k, x, e, hx, rfl⟩ := findF_some h
  have h1 := (codeB_ok hc).els k x hx
  refine ⟨?_, ?_⟩
  · simp only [elB, Bool.and_eq_true] at h1
    exact h1.1.1.1
  · rw [e, Int.toNat_natCast, List.getD_eq_getElem?_getD, hx, Option.getD_some]
/-- The two guards of ReplaceGain agree. -/
theorem gain_guard {d : CoD} {xs : List ItD} {k : Int} {nm : List UInt8} :
    (progB d xs && inB 0 ((xs.length : Int) - 1) k && nameB nm && progB d (replL xs k.toNat nm)) = (progB d xs && inB 0 ((xs.length : Int) - 1) k && progB d (replL xs k.toNat nm)) ∧
    (progB d xs && inB 0 ((xs.length : Int) - 1) k && decide (0 ≤ findF d.1 nm) && progB d (replL xs k.toNat nm)) = (progB d xs && inB 0 ((xs.length : Int) - 1) k && progB d (replL xs k.toNat nm)) := by
  cases hp : progB d xs
  · simp
  cases hk : inB 0 ((xs.length : Int) - 1) k
  · simp
  cases hr : progB d (replL xs k.toNat nm)
  · simp
  have hb : 0 ≤ k ∧ k ≤ (xs.length : Int) - 1 := by simpa only [inB, Bool.and_eq_true, decide_eq_true_eq] using hk
  have h1 := repl_known (by omega) hr
  have h2 := (find_name (progB_code hp).1 h1).1
  rw [h2]
  simp [h1]
/-- The sorted programme. -/
def ltF (d : CoD) (x y : ItD) : Bool := decide (fullF d x < fullF d y)
def earlyD (x : ItD) : ItD := (x.1, x.2.1, false)
def orderL (d : CoD) (xs : List ItD) : List ItD := lateL (sortS (ltF d) (xs.map earlyD))
def orderF (d : CoD) (xs : List ItD) : List ItD × Bool := if progB d xs then (orderL d xs, true) else ([], false)
end Go.Proofs.YtiohjcadmahkgaaGreat
