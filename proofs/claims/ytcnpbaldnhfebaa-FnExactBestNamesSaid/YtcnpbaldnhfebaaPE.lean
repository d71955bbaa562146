/- Lists of the call's own sorted and turned about; the reference's list in increasing order. -/
import Derived.Test.YtcnpbaldnhfebaaPD
import Derived.Test.YtcnpbaldnhfebaaShRev
import Derived.Sort.OwnSortedInts
namespace Go.Proofs.Ytcnpbaldnhfebaa
open Go.RowKit Go.Sort
set_option linter.unusedVariables false

theorem OwnI.block {e : TypeId} {w : World} {lo n c g : Nat} {zs : List Int} (h : OwnI e w lo (some ⟨g, 0, none⟩) n c zs) : ∃ cur, w.heap[g]? = some (.cells cur e (0, 0)) ∧ lo ≤ g ∧ n ≤ c ∧ c ≤ maxLen ∧ cur.size = c * 1 := by
  rcases h.2 with ⟨h, _⟩ | ⟨g', cap, cur, h, h1, h2, h3, h4, h5, _⟩
  · cases h
  · simp only [Value.slice.injEq, Option.some.injEq, Addr.mk.injEq, and_true] at h
    obtain ⟨rfl, _, rfl⟩ := h
    exact ⟨cur, h2, h1, h3, h4, h5⟩
theorem sortOwn_any (g c lo n : Nat) (zs : List Int) (w : World) (h : OwnI 3 w lo (some ⟨g, 0, none⟩) n c zs) (hn : n ≤ 1048576) :
    Calls Try.prog 55 #[.slice (some ⟨g, 0, none⟩) n c] w fun e w' => e = .returned (.tuple #[]) ∧ OwnI 3 w' lo (some ⟨g, 0, none⟩) n c (sortD zs).reverse ∧ w.grownBy w' (some g) := by
  have hl := h.len
  subst hl
  obtain ⟨cur, hb, h1, h2, h3, h4⟩ := h.block
  have hg : g < w.heap.size := (Array.getElem?_eq_some_iff.1 hb).1
  refine (slices_Sort_int g 0 c zs w (Own.holds h) hg (by omega)).mono ?_
  rintro e w' ⟨rfl, m, os, rfl⟩
  rw [show (zs.mergeSort fun x y => decide (x ≤ y)) = sortA zs from rfl, sortA_eq]
  exact ⟨rfl, ownsRow_sortedI (by rw [List.length_reverse, sortD_len]) h1 hb h2 h3 h4, grownBy_sortedI _⟩
theorem grow_none (w : World) : grow w #[] = w := by simp [grow]
def posU (out : List Int) (n : Int) : Nat → Nat
  | 0 => 0
  | k + 1 => if n < out.getD k 0 then posU out n k else k + 1
theorem posU_le (out : List Int) (n : Int) (k : Nat) : posU out n k ≤ k := by
  induction k with
  | zero => exact Nat.le_refl _
  | succ k ih => unfold posU; split <;> omega
def insU (out : List Int) (n : Int) : List Int := out.take (posU out n out.length) ++ n :: out.drop (posU out n out.length)
def sortU (zs : List Int) : List Int := zs.foldl insU []
def negL (zs : List Int) : List Int := zs.map (fun z => -z)
theorem posU_neg (out : List Int) (n : Int) (k : Nat) : posU out n k = posD (negL out) (-n) k := by
  induction k with
  | zero => rfl
  | succ k ih =>
    unfold posU posD
    have : (negL out).getD k 0 = -(out.getD k 0) := by
      unfold negL
      rw [List.getD_eq_getElem?_getD, List.getD_eq_getElem?_getD, List.getElem?_map]
      cases out[k]? <;> simp
    rw [this, ih]
    by_cases h : n < out.getD k 0
    · rw [if_pos h, if_pos (by omega)]
    · rw [if_neg h, if_neg (by omega)]
theorem insU_neg (out : List Int) (n : Int) : negL (insU out n) = insD (negL out) (-n) := by
  unfold insU insD
  rw [posU_neg, show (negL out).length = out.length by simp [negL]]
  simp [negL]
theorem negL_neg (zs : List Int) : negL (negL zs) = zs := by
  simp [negL, List.map_map, Function.comp_def]
theorem sortU_neg (zs : List Int) : negL (sortU zs) = sortD (negL zs) := by
  unfold sortU sortD
  have : ∀ (zs out : List Int), negL (zs.foldl insU out) = (negL zs).foldl insD (negL out) := by
    intro zs
    induction zs with
    | nil => intro out; rfl
    | cons z t ih =>
      intro out
      rw [List.foldl_cons, ih, insU_neg]
      rfl
  exact this zs []
theorem sortU_eq (zs : List Int) : sortU zs = (sortD zs).reverse := by
  have h1 : (sortU zs).Pairwise (fun x y => x ≤ y) := by
    rw [← negL_neg (sortU zs), sortU_neg]
    unfold negL
    rw [List.pairwise_map]
    exact (sortD_sorted _).imp (by intro a b h; simp at h ⊢; omega)
  have h2 : (sortD zs).reverse.Pairwise (fun x y => x ≤ y) := by
    rw [List.pairwise_reverse]
    exact (sortD_sorted zs).imp (by simp)
  have h3 : (sortU zs).Perm (sortD zs).reverse := by
    have : (sortU zs).Perm zs := by
      rw [← negL_neg (sortU zs), sortU_neg]
      have h := (sortD_perm (negL zs)).map (fun z => -z)
      exact h.trans (by show (negL (negL zs)).Perm zs; rw [negL_neg])
    exact this.trans ((sortD_perm zs).symm.trans (List.reverse_perm _).symm)
  exact h3.eq_of_pairwise (fun a b _ _ h1 h2 => by omega) h1 h2
theorem sortU_len (zs : List Int) : (sortU zs).length = zs.length := by rw [sortU_eq, List.length_reverse, sortD_len]
theorem sortU_take_succ (zs : List Int) (k : Nat) (h : k < zs.length) : sortU (zs.take (k + 1)) = insU (sortU (zs.take k)) (zs.getD k 0) := by
  unfold sortU
  rw [take_succ_getD k h, List.foldl_append]
  rfl
end Go.Proofs.Ytcnpbaldnhfebaa
