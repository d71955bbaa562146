/- Names by the rules, and counts of families, plainly. -/
import Derived.Test.YtiohjcadmahkgaaGreatPY
import Derived.Test.YtiohjcadmahkgaaGreatPR
namespace Go.Proofs.YtiohjcadmahkgaaGreat
open Go.RowKit Go.Sort
set_option linter.unusedVariables false

/-- A name of an item keeps one of the rules 2, 4 and 7. -/
def nameR (d : CoD) (xs : List ItD) (r : Int) (x : ItD) (nm : List UInt8) : Bool := if r = 2 then decide (0 ≤ findF d.1 nm) else if r = 4 then jumpN d x nm else repW d xs nm
def nameI (d : CoD) (xs : List ItD) (r : Int) (x : ItD) : Bool := x.1.all (nameR d xs r x)
def namesR (d : CoD) (xs : List ItD) (r : Int) : Bool := xs.all (nameI d xs r)
theorem names2 (d : CoD) (xs : List ItD) : namesR d xs 2 = ruleB d xs 2 := rfl
theorem names4 (d : CoD) (xs : List ItD) : namesR d xs 4 = ruleB d xs 4 := rfl
theorem names7 (d : CoD) (xs : List ItD) : namesR d xs 7 = ruleB d xs 7 := rfl
/-- How many items each family has among the first k. -/
def fcL (d : CoD) (xs : List ItD) (k : Nat) : List Int := (List.range 5).map (fun f => (famCnt d (xs.take k) f : Int))
theorem fcL_len (d : CoD) (xs : List ItD) (k : Nat) : (fcL d xs k).length = 5 := by simp [fcL]
theorem fcL_zero (d : CoD) (xs : List ItD) : fcL d xs 0 = List.replicate 5 0 := by simp [fcL, famCnt]; rfl
theorem famCnt_succ (d : CoD) {xs : List ItD} {k : Nat} {x : ItD} (h : xs[k]? = some x) (f : Nat) : famCnt d (xs.take (k + 1)) f = famCnt d (xs.take k) f + if famI d x == (f : Int) then 1 else 0 := by
  unfold famCnt
  exact filter_succ (fun x => famI d x == (f : Int)) h
theorem fcL_skip {d : CoD} {xs : List ItD} {k : Nat} {x : ItD} (h : xs[k]? = some x) (hf : famI d x < 0) : fcL d xs (k + 1) = fcL d xs k := by
  unfold fcL
  refine List.map_congr_left fun f _ => ?_
  rw [famCnt_succ d h f, if_neg (by simp; omega)]
  rfl
theorem fcL_at (d : CoD) (xs : List ItD) (k f : Nat) (hf : f < 5) : (fcL d xs k).getD f 0 = famCnt d (xs.take k) f := by
  unfold fcL
  rw [List.getD_eq_getElem?_getD, List.getElem?_map, List.getElem?_range hf]
  rfl
theorem fcL_hit {d : CoD} {xs : List ItD} {k f : Nat} {x : ItD} (h : xs[k]? = some x) (hf : famI d x = f) (h5 : f < 5) : fcL d xs (k + 1) = (fcL d xs k).set f ((fcL d xs k).getD f 0 + 1) := by
  apply List.ext_getElem?
  intro i
  rw [List.getElem?_set, fcL_len, fcL_at _ _ _ _ h5]
  by_cases hi : i < 5
  · have e : ∀ k, (fcL d xs k)[i]? = some (famCnt d (xs.take k) i : Int) := fun k => by
      unfold fcL
      rw [List.getElem?_map, List.getElem?_range hi]
      rfl
    rw [e, famCnt_succ d h i]
    by_cases hx : f = i
    · subst hx
      rw [if_pos rfl, if_pos h5, if_pos (by simp [hf])]
      rfl
    · rw [if_neg hx, e, if_neg (by simp [hf]; omega)]
      rfl
  · rw [List.getElem?_eq_none (by rw [fcL_len]; omega), if_neg (by omega), List.getElem?_eq_none (by rw [fcL_len]; omega)]
theorem famCnt_le (d : CoD) (xs : List ItD) (k f : Nat) : famCnt d (xs.take k) f ≤ k := by
  unfold famCnt
  have h1 := List.length_filter_le (fun x => famI d x == (f : Int)) (xs.take k)
  rw [List.length_take] at h1
  omega
theorem fcL_bd (d : CoD) (xs : List ItD) (k f : Nat) : 0 ≤ (fcL d xs k).getD f 0 ∧ (fcL d xs k).getD f 0 ≤ k := by
  by_cases hf : f < 5
  · rw [fcL_at _ _ _ _ hf]
    have := famCnt_le d xs k f
    omega
  · rw [List.getD_eq_getElem?_getD, List.getElem?_eq_none (by rw [fcL_len]; omega)]
    simp
theorem famI_bd {d : CoD} (hd : CodeOk d) (x : ItD) : -1 ≤ famI d x ∧ famI d x ≤ 4 := by
  have := familyF_bd hd x
  unfold famI
  split <;> omega
/-- No family has more items than its limit. -/
def fitAt (d : CoD) (xs : List ItD) (f : Nat) : Bool := decide ((famCnt d xs f : Int) ≤ d.2.1.getD f 0)
theorem rule6 (d : CoD) (xs : List ItD) : ruleB d xs 6 = (List.range 5).all (fitAt d xs) := rfl
end Go.Proofs.YtiohjcadmahkgaaGreat
