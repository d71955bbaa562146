/- How many elements each family has; MostSingles by the program. -/
import Derived.Test.YtcnpbaldnhfebaaPC
import Derived.Test.YtcnpbaldnhfebaaRL
import Derived.Test.YtcnpbaldnhfebaaPG
namespace Go.Proofs.Ytcnpbaldnhfebaa
open Go.RowKit Go.Sort
set_option linter.unusedVariables false

def famE (d : CoD) (i : Nat) : Nat := (d.1.getD i noEl).2.1.toNat
def limE (d : CoD) (f : Nat) : Nat := (d.2.1.getD f 0).toNat
def basE (d : CoD) (i : Nat) : Int := (d.1.getD i noEl).2.2.2
theorem famE_eq {d : CoD} {i : Nat} {x : ElD} (h : d.1[i]? = some x) : famE d i = x.2.1.toNat := by unfold famE; rw [getD_some h]
theorem basE_eq {d : CoD} {i : Nat} {x : ElD} (h : d.1[i]? = some x) : basE d i = x.2.2.2 := by unfold basE; rw [getD_some h]
theorem famE_lt {d : CoD} (hd : CodeOk d) (i : Nat) : famE d i < 5 := by
  unfold famE
  cases hx : d.1[i]? with
  | none => rw [List.getD_eq_getElem?_getD, hx]; decide
  | some y => rw [getD_some hx]; have := elB_ok (hd.els _ _ hx); omega
theorem limE_eq {d : CoD} (hd : CodeOk d) {f : Nat} (hf : f < 5) : (limE d f : Int) = d.2.1.getD f 0 ∧ 0 ≤ d.2.1.getD f 0 ∧ d.2.1.getD f 0 ≤ 9 := by
  have hl := hd.lim
  have hm : d.2.1.getD f 0 ∈ d.2.1 := by
    rw [List.getD_eq_getElem?_getD, List.getElem?_eq_getElem (by omega)]
    exact List.getElem_mem _
  have := hd.limb _ hm
  unfold limE
  omega
/-- How many of the first k elements each family has. -/
def szA (d : CoD) (k f : Nat) : Int := (cntF (famE d) f (List.range k) : Nat)
def szL (d : CoD) (k : Nat) : List Int := (List.range 5).map (szA d k)
theorem szL_len (d : CoD) (k : Nat) : (szL d k).length = 5 := by simp [szL]
theorem szL_at (d : CoD) (k : Nat) {f : Nat} (hf : f < 5) : (szL d k).getD f 0 = szA d k f := by
  unfold szL
  rw [List.getD_eq_getElem?_getD, List.getElem?_map, List.getElem?_range hf]
  rfl
theorem szA_bd (d : CoD) (k f : Nat) : 0 ≤ szA d k f ∧ szA d k f ≤ k := by
  unfold szA cntF
  have := List.length_filter_le (fun i => famE d i == f) (List.range k)
  rw [List.length_range] at this
  omega
theorem szA_succ (d : CoD) (k f : Nat) : szA d (k + 1) f = szA d k f + (if famE d k = f then 1 else 0) := by
  unfold szA
  rw [List.range_succ, cntF_snoc]
  split <;> simp
theorem szL_zero (d : CoD) : szL d 0 = List.replicate 5 0 := rfl
theorem szL_succ {d : CoD} {k f : Nat} (h : famE d k = f) (hf : f < 5) : szL d (k + 1) = (szL d k).set f (szA d k f + 1) := by
  apply List.ext_getElem?
  intro i
  rw [List.getElem?_set, szL_len]
  unfold szL
  rw [List.getElem?_map, List.getElem?_map]
  by_cases hi : i < 5
  · rw [List.getElem?_range hi]
    simp only [Option.map_some]
    by_cases hk : f = i
    · subst hk
      rw [if_pos rfl, if_pos hf, szA_succ, if_pos h]
    · rw [if_neg hk, szA_succ, if_neg (by omega)]
      simp
  · rw [List.getElem?_eq_none (l := List.range 5) (by simp; omega)]
    rw [if_neg (by omega)]
    rfl

end Go.Proofs.Ytcnpbaldnhfebaa
