import Derived.Test.YtijgndfhfggipaaGreatTJ
import Derived.Test.YtijgndfhfggipaaGreatShSort
namespace Go.Proofs.YtijgndfhfggipaaGreat
open Go.RowKit Go.Sort
set_option linter.unusedVariables false

def sortA (zs : List Int) : List Int := zs.mergeSort fun x y => decide (x ≤ y)
theorem sortA_eq (zs : List Int) : sortA zs = (sortD zs).reverse := by
  have h1 : (sortA zs).Pairwise (fun x y => x ≤ y) := by
    have := List.pairwise_mergeSort (le := fun x y : Int => decide (x ≤ y)) (fun a b c h1 h2 => by simp at h1 h2 ⊢; omega) (fun a b => by simp; omega) zs
    exact this.imp (by simp)
  have h2 : (sortD zs).reverse.Pairwise (fun x y => x ≤ y) := by
    rw [List.pairwise_reverse]
    exact (sortD_sorted zs).imp (by simp)
  have h3 : (sortA zs).Perm (sortD zs).reverse := (List.mergeSort_perm zs _).trans ((sortD_perm zs).symm.trans (List.reverse_perm _).symm)
  exact h3.eq_of_pairwise (fun a b _ _ h1 h2 => by omega) h1 h2

theorem Own.holds {e : TypeId} {w : World} {lo n c g : Nat} {zs : List Int} (h : OwnI e w lo (some ⟨g, 0, none⟩) n c zs) : Holds (Value.int .i64) w g 0 zs.toArray := by
  intro j hj
  have hl := h.len
  have hj' : j < n := by simpa [hl] using hj
  refine ⟨?_, by rw [Nat.zero_add]; exact h.free j⟩
  rw [Nat.zero_add, h.cell j hj']
  have : j < zs.length := by omega
  simp [this]

theorem quiet_of_d {P : Program} {f : FuncId} {args : Array Value} {w : World} {n : Nat} {v : Value}
    (h : Calls P f args (w.drewN n) fun e w' => e = .returned v ∧ ∃ m, w' = (w.drewN n).drewN m) : Calls P f args (w.drewN n) fun e w'' => e = .returned v ∧ ∃ m, w'' = w.drewN m :=
  h.mono fun _ _ ⟨he, m, hm⟩ => ⟨he, n + m, by rw [hm, World.drewN_drewN]⟩

def orderOfF (zs : List Int) (k : Int) : Int × Bool := if hasMark zs k then ((sortD zs).reverse.getD k.toNat 0, true) else (0, false)
def midD (zs : List Int) : Int := (sortD zs).reverse.getD ((zs.length - 1) / 2) 0 + (sortD zs).reverse.getD (zs.length / 2) 0
def middleOfF (zs : List Int) : Int × Int × Bool := if goodMarks zs then ((lowF (midD zs) 2).1, (lowF (midD zs) 2).2, true) else (0, 0, false)

theorem sort_mem_bd {zs : List Int} (h : goodMarks zs = true) (k : Nat) : -1000 ≤ (sortD zs).reverse.getD k 0 ∧ (sortD zs).reverse.getD k 0 ≤ 1000 := by
  by_cases hk : k < (sortD zs).reverse.length
  · have hm : (sortD zs).reverse[k] ∈ zs := (sortD_perm zs).mem_iff.1 (List.mem_reverse.1 (List.getElem_mem hk))
    have := (good_ok h).2.2.1 _ hm
    simpa [List.getElem?_eq_getElem hk] using this
  · rw [List.getD_eq_getElem?_getD, List.getElem?_eq_none (by omega)]
    simp

end Go.Proofs.YtijgndfhfggipaaGreat
