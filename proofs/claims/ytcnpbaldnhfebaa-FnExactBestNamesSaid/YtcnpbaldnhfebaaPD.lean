/- The plain law of the bound of a plan: bases laid out, the greatest of them summed. -/
import Derived.Test.YtcnpbaldnhfebaaTK
import Derived.Test.YtcnpbaldnhfebaaRK
namespace Go.Proofs.Ytcnpbaldnhfebaa
open Go.RowKit Go.Sort
set_option linter.unusedVariables false

def baseE (x : ElD) : Int := x.2.2.2
def repB (r : Nat) (x : ElD) : List Int := List.replicate r (baseE x)
/-- The bases of the first k elements, each r times. -/
def basK (xs : List ElD) (r k : Nat) : List Int := ((xs.take k).map (repB r)).flatten
theorem basK_zero (xs : List ElD) (r : Nat) : basK xs r 0 = [] := rfl
theorem basK_succ {xs : List ElD} {r k : Nat} {x : ElD} (h : xs[k]? = some x) : basK xs r (k + 1) = basK xs r k ++ List.replicate r (baseE x) := by
  obtain ⟨hk, rfl⟩ := List.getElem?_eq_some_iff.1 h
  unfold basK
  rw [List.take_succ_eq_append_getElem hk, List.map_append, List.flatten_append]
  simp [repB]
theorem basK_len (xs : List ElD) (r k : Nat) (h : k ≤ xs.length) : (basK xs r k).length = k * r := by
  induction k with
  | zero => simp [basK]
  | succ k ih =>
    rw [basK_succ (List.getElem?_eq_getElem (show k < xs.length by omega)), List.length_append, ih (by omega), List.length_replicate, Nat.add_mul]
    omega
theorem basK_bd {d : CoD} (hd : CodeOk d) (r k : Nat) : ∀ z ∈ basK d.1 r k, 0 ≤ z ∧ z ≤ 2000 := by
  intro z hz
  unfold basK at hz
  obtain ⟨l, hl, hzl⟩ := List.mem_flatten.1 hz
  obtain ⟨x, hx, rfl⟩ := List.mem_map.1 hl
  have hx2 : x ∈ d.1 := List.mem_of_mem_take hx
  obtain ⟨i, hi⟩ := List.getElem?_of_mem hx2
  have := elB_ok (hd.els i x hi)
  rw [List.eq_of_mem_replicate hzl]
  unfold baseE
  omega
def basL (d : CoD) : List Int := basK d.1 d.2.2.1.toNat d.1.length
/-- The sum of the m greatest. -/
def topS (zs : List Int) (m : Nat) : Int := ((sortD zs).take m).sum
def planS (d : CoD) (n : Int) : Int := topS (basL d) (n + 4).toNat
def planF (d : CoD) (n : Int) : Int × Bool := if codeB d && inB 1 14 n then ((planS d n * (100 + d.2.2.2.1) + 99) / 100 + n, true) else (0, false)
theorem sum_rev (l : List Int) : l.reverse.sum = l.sum := by
  induction l with
  | nil => rfl
  | cons x t ih => rw [List.reverse_cons, sum_append, ih]; simp; omega
/-- Of the list in increasing order the last ones, added one by one. -/
def tailS (ys : List Int) (m k : Nat) : Int := ((ys.take k).drop (ys.length - m)).sum
theorem tailS_zero (ys : List Int) (m : Nat) : tailS ys m 0 = 0 := by simp [tailS]
theorem tailS_succ (ys : List Int) (m k : Nat) (h : k < ys.length) : tailS ys m (k + 1) = tailS ys m k + (if ys.length - k ≤ m then ys.getD k 0 else 0) := by
  unfold tailS
  rw [List.take_succ_eq_append_getElem h]
  by_cases hm : ys.length - k ≤ m
  · rw [if_pos hm, List.drop_append_of_le_length (by simp; omega), sum_append]
    simp [h]
  · rw [if_neg hm, List.drop_eq_nil_of_le (by simp; omega), List.drop_eq_nil_of_le (by simp; omega)]
    simp
theorem tailS_all (zs : List Int) (m : Nat) : tailS (sortD zs).reverse m zs.length = topS zs m := by
  unfold tailS topS
  rw [List.take_of_length_le (by simp [sortD_len]), List.length_reverse, sortD_len, ← sum_rev ((sortD zs).take m), List.reverse_take]
  have := sortD_len zs
  by_cases h : m ≤ zs.length
  · rw [this]
  · rw [show zs.length - m = 0 by omega, show (sortD zs).length - m = 0 by omega]
theorem take_bd {l : List Int} (h : ∀ z ∈ l, 0 ≤ z ∧ z ≤ 2000) : 0 ≤ l.sum ∧ l.sum ≤ 2000 * (l.length : Int) := sum_bd2 l h
end Go.Proofs.Ytcnpbaldnhfebaa
