/- GP: PC, PD, PE, PF, PG, PH, PI, PJ, PK, PL, PM in one text. -/
import Derived.Test.YtegoapdbpfhkiaaGreatGA
import Derived.Test.YtegoapdbpfhkiaaGreatGT
import Derived.Test.YtegoapdbpfhkiaaGreatRK
import Derived.Test.YtegoapdbpfhkiaaGreatShRev
import Derived.Sort.OwnSortedInts
import Derived.Deep.RegionHeld3
import Derived.Test.YtegoapdbpfhkiaaGreatRL
import Derived.Test.YtegoapdbpfhkiaaGreatRV
/- A greedy choice with room for each family: how many it takes. Of no program. -/
namespace Go.Proofs.YtegoapdbpfhkiaaGreat
set_option linter.unusedVariables false

section
variable (fam : Nat → Nat) (lim : Nat → Nat) (base : Nat → Int)
def cntF (f : Nat) (l : List Nat) : Nat := (l.filter (fun i => fam i == f)).length
def roomF (out : List Nat) (f : Nat) : Int := (lim f : Int) - (cntF fam f out : Nat)
/-- The best one among the first k that there is room for, or -1. -/
def pickF (out : List Nat) : Nat → Int
  | 0 => -1
  | k + 1 => if 0 < roomF fam lim out (fam k) ∧ k ∉ out ∧ (pickF out k < 0 ∨ base (pickF out k).toNat < base k) then (k : Int) else pickF out k
/-- The choice of n at most out of N, with so many rounds left. -/
def choosF (N n : Nat) : Nat → List Nat → List Nat
  | 0, out => out
  | q + 1, out => if out.length < n then (if pickF fam lim base out N < 0 then out else choosF N n q (out ++ [(pickF fam lim base out N).toNat])) else out
def totF (g : Nat → Nat) : Nat := g 0 + g 1 + g 2 + g 3 + g 4

theorem pickF_or (out : List Nat) (k : Nat) : pickF fam lim base out k = -1 ∨ ∃ i : Nat, i < k ∧ pickF fam lim base out k = i ∧ 0 < roomF fam lim out (fam i) ∧ i ∉ out := by
  induction k with
  | zero => exact .inl rfl
  | succ k ih =>
    unfold pickF
    split
    · rename_i h
      exact .inr ⟨k, by omega, rfl, h.1, h.2.1⟩
    · rcases ih with h | ⟨i, h1, h2, h3, h4⟩
      · exact .inl h
      · exact .inr ⟨i, by omega, h2, h3, h4⟩
theorem pickF_none (out : List Nat) (k : Nat) (h : pickF fam lim base out k < 0) : ∀ i, i < k → 0 < roomF fam lim out (fam i) → i ∈ out := by
  induction k with
  | zero => intro i hi; omega
  | succ k ih =>
    unfold pickF at h
    split at h
    · omega
    · rename_i hc
      intro i hi hr
      by_cases hik : i = k
      · subst hik
        apply Classical.byContradiction
        intro hm
        exact hc ⟨hr, hm, .inl h⟩
      · exact ih h i (by omega) hr
theorem nodup_len_le {l l' : List Nat} (h : l.Nodup) (hs : ∀ x ∈ l, x ∈ l') : l.length ≤ l'.length := by
  induction l generalizing l' with
  | nil => exact Nat.zero_le _
  | cons x t ih =>
    rw [List.nodup_cons] at h
    have hx : x ∈ l' := hs x (by simp)
    have h1 := ih h.2 (l' := l'.erase x) (fun y hy => by
      have hne : y ≠ x := fun e => h.1 (e ▸ hy)
      exact (List.mem_erase_of_ne hne).2 (hs y (by simp [hy])))
    rw [List.length_erase_of_mem hx] at h1
    have : 0 < l'.length := List.length_pos_of_mem hx
    simp only [List.length_cons]
    omega
theorem cntF_le {l l' : List Nat} (f : Nat) (h : l.Nodup) (hs : ∀ x ∈ l, fam x = f → x ∈ l') : cntF fam f l ≤ cntF fam f l' := by
  unfold cntF
  refine nodup_len_le (h.filter _) (fun x hx => ?_)
  rw [List.mem_filter] at hx ⊢
  have hf : fam x = f := by simpa using hx.2
  exact ⟨hs x hx.1 hf, hx.2⟩
theorem cntF_cons (f i : Nat) (t : List Nat) : cntF fam f (i :: t) = (if fam i = f then 1 else 0) + cntF fam f t := by
  unfold cntF
  rw [List.filter_cons]
  by_cases h : fam i = f
  · simp [h]; omega
  · simp [h]
theorem cntF_snoc (f i : Nat) (t : List Nat) : cntF fam f (t ++ [i]) = cntF fam f t + (if fam i = f then 1 else 0) := by
  unfold cntF
  rw [List.filter_append, List.length_append]
  congr 1
  by_cases h : fam i = f <;> simp [h]
theorem len_totF (l : List Nat) (h : ∀ i ∈ l, fam i < 5) : l.length = totF (fun f => cntF fam f l) := by
  induction l with
  | nil => rfl
  | cons i t ih =>
    have h1 := ih (fun j hj => h j (by simp [hj]))
    have h2 := h i (by simp)
    simp only [totF, cntF_cons, List.length_cons] at h1 ⊢
    have h3 : fam i = 0 ∨ fam i = 1 ∨ fam i = 2 ∨ fam i = 3 ∨ fam i = 4 := by omega
    rcases h3 with h3 | h3 | h3 | h3 | h3 <;> simp only [h3] <;> simp <;> omega
/-- What the choice keeps. -/
structure ChOk (N n : Nat) (out : List Nat) : Prop where
  nd : out.Nodup
  lt : ∀ i ∈ out, i < N
  lim : ∀ f, cntF fam f out ≤ lim f
  len : out.length ≤ n
variable {fam lim base}
theorem ChOk.next {N n : Nat} {out : List Nat} (h : ChOk fam lim N n out) {i : Nat} (hi : i < N) (hr : 0 < roomF fam lim out (fam i)) (hm : i ∉ out) (hl : out.length < n) : ChOk fam lim N n (out ++ [i]) := by
  refine ⟨?_, ?_, ?_, by rw [List.length_append]; exact hl⟩
  · rw [List.nodup_append]
    refine ⟨h.nd, by simp, fun a ha b hb e => ?_⟩
    simp at hb
    subst hb e
    exact hm ha
  · intro j hj
    rcases List.mem_append.1 hj with hj | hj
    · exact h.lt j hj
    · simp at hj; omega
  · intro f
    rw [cntF_snoc]
    have := h.lim f
    split
    · rename_i e
      subst e
      unfold roomF at hr
      omega
    · omega
/-- How many the choice takes: as many as fit, n at most. -/
theorem choosF_len {N n : Nat} (hf : ∀ i, i < N → fam i < 5) : ∀ (q : Nat) (out : List Nat), ChOk fam lim N n out → n ≤ out.length + q → (choosF fam lim base N n q out).length = min n (totF (fun f => min (cntF fam f (List.range N)) (lim f))) := by
  have le : ∀ out, ChOk fam lim N n out → out.length ≤ totF (fun f => min (cntF fam f (List.range N)) (lim f)) := by
    intro out h
    rw [len_totF fam out (fun i hi => hf i (h.lt i hi))]
    have h1 : ∀ f, cntF fam f out ≤ min (cntF fam f (List.range N)) (lim f) := fun f => by
      have h2 := cntF_le fam (l' := List.range N) f h.nd (fun x hx _ => List.mem_range.2 (h.lt x hx))
      have h3 := h.lim f
      omega
    simp only [totF]
    have := h1 0; have := h1 1; have := h1 2; have := h1 3; have := h1 4
    omega
  intro q
  induction q with
  | zero =>
    intro out h hq
    have h1 := le out h
    have h2 := h.len
    unfold choosF
    omega
  | succ q ih =>
    intro out h hq
    unfold choosF
    split
    · rename_i hl
      split
      · rename_i hp
        have hn := pickF_none fam lim base out N hp
        have h1 := le out h
        have h2 : totF (fun f => min (cntF fam f (List.range N)) (lim f)) ≤ out.length := by
          rw [len_totF fam out (fun i hi => hf i (h.lt i hi))]
          have h3 : ∀ f, min (cntF fam f (List.range N)) (lim f) ≤ cntF fam f out := fun f => by
            by_cases hc : cntF fam f out < lim f
            · have h4 := cntF_le fam (l' := out) f (List.nodup_range (n := N)) (fun x hx e => hn x (List.mem_range.1 hx) (by unfold roomF; rw [e]; omega))
              omega
            · omega
          simp only [totF]
          have := h3 0; have := h3 1; have := h3 2; have := h3 3; have := h3 4
          omega
        omega
      · rename_i hp
        rcases pickF_or fam lim base out N with h1 | ⟨i, h1, h2, h3, h4⟩
        · omega
        · rw [h2, Int.toNat_natCast]
          exact ih _ (h.next h1 h3 h4 hl) (by rw [List.length_append, List.length_singleton]; omega)
    · rename_i hl
      have h1 := le out h
      have h2 := h.len
      omega
end
end Go.Proofs.YtegoapdbpfhkiaaGreat

/- The plain law of the bound of a plan: bases laid out, the greatest of them summed. -/
namespace Go.Proofs.YtegoapdbpfhkiaaGreat
open Go.RowKit Go.Sort
set_option linter.unusedVariables false

def baseE (x : ElD) : Int := x.2.2.2
def repB (r : Nat) (x : ElD) : List Int := List.replicate r (baseE x)
/-- The bases of the first k elements, each r times. -/
def basK (xs : List ElD) (r k : Nat) : List Int := ((xs.take k).map (repB r)).flatten
theorem basK_zero (xs : List ElD) (r : Nat) : basK xs r 0 = [] := rfl
theorem basK_succ {xs : List ElD} {r k : Nat} {x : ElD} (h : xs[k]? = some x) : basK xs r (k + 1) = basK xs r k ++ List.replicate r (baseE x) := by
  obtain ⟨hk, rfl⟩ := List.getElem?_eq_some_iff.1 h
  unfold basK
  rw [List.take_succ_eq_append_getElem hk, List.map_append, List.flatten_append]
  simp [repB]
theorem basK_len (xs : List ElD) (r k : Nat) (h : k ≤ xs.length) : (basK xs r k).length = k * r := by
  induction k with
  | zero => simp [basK]
  | succ k ih =>
    rw [basK_succ (List.getElem?_eq_getElem (show k < xs.length by omega)), List.length_append, ih (by omega), List.length_replicate, Nat.add_mul]
    omega
theorem basK_bd {d : CoD} (hd : CodeOk d) (r k : Nat) : ∀ z ∈ basK d.1 r k, 0 ≤ z ∧ z ≤ 2000 := by
  intro z hz
  unfold basK at hz
  obtain ⟨l, hl, hzl⟩ := List.mem_flatten.1 hz
  obtain ⟨x, hx, rfl⟩ := List.mem_map.1 hl
  have hx2 : x ∈ d.1 := List.mem_of_mem_take hx
  obtain ⟨i, hi⟩ := List.getElem?_of_mem hx2
  have := elB_ok (hd.els i x hi)
  rw [List.eq_of_mem_replicate hzl]
  unfold baseE
  omega
def basL (d : CoD) : List Int := basK d.1 d.2.2.1.toNat d.1.length
/-- The sum of the m greatest. -/
def topS (zs : List Int) (m : Nat) : Int := ((sortD zs).take m).sum
def planS (d : CoD) (n : Int) : Int := topS (basL d) (n + 4).toNat
def planF (d : CoD) (n : Int) : Int × Bool := if codeB d && inB 1 14 n then ((planS d n * (100 + d.2.2.2.1) + 99) / 100 + n, true) else (0, false)
theorem sum_rev (l : List Int) : l.reverse.sum = l.sum := by
  induction l with
  | nil => rfl
  | cons x t ih => rw [List.reverse_cons, sum_append, ih]; simp; omega
/-- Of the list in increasing order the last ones, added one by one. -/
def tailS (ys : List Int) (m k : Nat) : Int := ((ys.take k).drop (ys.length - m)).sum
theorem tailS_zero (ys : List Int) (m : Nat) : tailS ys m 0 = 0 := by simp [tailS]
theorem tailS_succ (ys : List Int) (m k : Nat) (h : k < ys.length) : tailS ys m (k + 1) = tailS ys m k + (if ys.length - k ≤ m then ys.getD k 0 else 0) := by
  unfold tailS
  rw [List.take_succ_eq_append_getElem h]
  by_cases hm : ys.length - k ≤ m
  · rw [if_pos hm, List.drop_append_of_le_length (by simp; omega), sum_append]
    simp [h]
  · rw [if_neg hm, List.drop_eq_nil_of_le (by simp; omega), List.drop_eq_nil_of_le (by simp; omega)]
    simp
theorem tailS_all (zs : List Int) (m : Nat) : tailS (sortD zs).reverse m zs.length = topS zs m := by
  unfold tailS topS
  rw [List.take_of_length_le (by simp [sortD_len]), List.length_reverse, sortD_len, ← sum_rev ((sortD zs).take m), List.reverse_take]
  have := sortD_len zs
  by_cases h : m ≤ zs.length
  · rw [this]
  · rw [show zs.length - m = 0 by omega, show (sortD zs).length - m = 0 by omega]
theorem take_bd {l : List Int} (h : ∀ z ∈ l, 0 ≤ z ∧ z ≤ 2000) : 0 ≤ l.sum ∧ l.sum ≤ 2000 * (l.length : Int) := sum_bd2 l h
end Go.Proofs.YtegoapdbpfhkiaaGreat

/- Lists of the call's own sorted and turned about; the reference's list in increasing order. -/
namespace Go.Proofs.YtegoapdbpfhkiaaGreat
open Go.RowKit Go.Sort
set_option linter.unusedVariables false

theorem OwnI.block {e : TypeId} {w : World} {lo n c g : Nat} {zs : List Int} (h : OwnI e w lo (some ⟨g, 0, none⟩) n c zs) : ∃ cur, w.heap[g]? = some (.cells cur e (0, 0)) ∧ lo ≤ g ∧ n ≤ c ∧ c ≤ maxLen ∧ cur.size = c * 1 := by
  rcases h.2 with ⟨h, _⟩ | ⟨g', cap, cur, h, h1, h2, h3, h4, h5, _⟩
  · cases h
  · simp only [Value.slice.injEq, Option.some.injEq, Addr.mk.injEq, and_true] at h
    obtain ⟨rfl, _, rfl⟩ := h
    exact ⟨cur, h2, h1, h3, h4, h5⟩
theorem sortOwn_any (g c lo n : Nat) (zs : List Int) (w : World) (h : OwnI 3 w lo (some ⟨g, 0, none⟩) n c zs) (hn : n ≤ 1048576) :
    Calls Tryz.prog 40 #[.slice (some ⟨g, 0, none⟩) n c] w fun e w' => e = .returned (.tuple #[]) ∧ OwnI 3 w' lo (some ⟨g, 0, none⟩) n c (sortD zs).reverse ∧ w.grownBy w' (some g) := by
  have hl := h.len
  subst hl
  obtain ⟨cur, hb, h1, h2, h3, h4⟩ := h.block
  have hg : g < w.heap.size := (Array.getElem?_eq_some_iff.1 hb).1
  refine (slices_Sort_int g 0 c zs w (Own.holds h) hg (by omega)).mono ?_
  rintro e w' ⟨rfl, m, os, rfl⟩
  rw [show (zs.mergeSort fun x y => decide (x ≤ y)) = sortA zs from rfl, sortA_eq]
  exact ⟨rfl, ownsRow_sortedI (by rw [List.length_reverse, sortD_len]) h1 hb h2 h3 h4, grownBy_sortedI _⟩
theorem grow_none (w : World) : grow w #[] = w := by simp [grow]
theorem reverseOwn_any (g c lo n : Nat) (zs : List Int) (w : World) (h : OwnI 3 w lo (some ⟨g, 0, none⟩) n c zs) (hn : n ≤ 1048576) :
    Calls Tryz.prog 41 #[.slice (some ⟨g, 0, none⟩) n c] w fun e w' => e = .returned (.tuple #[]) ∧ OwnI 3 w' lo (some ⟨g, 0, none⟩) n c zs.reverse ∧ w.grownBy w' (some g) := by
  have hl := h.len
  subst hl
  obtain ⟨cur, hb, h1, h2, h3, h4⟩ := h.block
  refine (slices_Reverse_int g 0 c zs w (Own.holds h) (by omega)).mono ?_
  rintro e w' ⟨rfl, m, rfl⟩
  have hr := ownsRow_sortedI (base := lo) (n := m) (os := #[]) (ss := zs) (ts := zs.reverse) (by rw [List.length_reverse]) h1 hb h2 h3 h4
  have hg := grownBy_sortedI (w := w) (g := g) (n := m) (os := #[]) zs.reverse.toArray
  rw [grow_none] at hr hg
  exact ⟨rfl, hr, hg⟩

def posU (out : List Int) (n : Int) : Nat → Nat
  | 0 => 0
  | k + 1 => if n < out.getD k 0 then posU out n k else k + 1
theorem posU_le (out : List Int) (n : Int) (k : Nat) : posU out n k ≤ k := by
  induction k with
  | zero => exact Nat.le_refl _
  | succ k ih => unfold posU; split <;> omega
def insU (out : List Int) (n : Int) : List Int := out.take (posU out n out.length) ++ n :: out.drop (posU out n out.length)
def sortU (zs : List Int) : List Int := zs.foldl insU []
def negL (zs : List Int) : List Int := zs.map (fun z => -z)
theorem posU_neg (out : List Int) (n : Int) (k : Nat) : posU out n k = posD (negL out) (-n) k := by
  induction k with
  | zero => rfl
  | succ k ih =>
    unfold posU posD
    have : (negL out).getD k 0 = -(out.getD k 0) := by
      unfold negL
      rw [List.getD_eq_getElem?_getD, List.getD_eq_getElem?_getD, List.getElem?_map]
      cases out[k]? <;> simp
    rw [this, ih]
    by_cases h : n < out.getD k 0
    · rw [if_pos h, if_pos (by omega)]
    · rw [if_neg h, if_neg (by omega)]
theorem insU_neg (out : List Int) (n : Int) : negL (insU out n) = insD (negL out) (-n) := by
  unfold insU insD
  rw [posU_neg, show (negL out).length = out.length by simp [negL]]
  simp [negL]
theorem negL_neg (zs : List Int) : negL (negL zs) = zs := by
  simp [negL, List.map_map, Function.comp_def]
theorem sortU_neg (zs : List Int) : negL (sortU zs) = sortD (negL zs) := by
  unfold sortU sortD
  have : ∀ (zs out : List Int), negL (zs.foldl insU out) = (negL zs).foldl insD (negL out) := by
    intro zs
    induction zs with
    | nil => intro out; rfl
    | cons z t ih =>
      intro out
      rw [List.foldl_cons, ih, insU_neg]
      rfl
  exact this zs []
theorem sortU_eq (zs : List Int) : sortU zs = (sortD zs).reverse := by
  have h1 : (sortU zs).Pairwise (fun x y => x ≤ y) := by
    rw [← negL_neg (sortU zs), sortU_neg]
    unfold negL
    rw [List.pairwise_map]
    exact (sortD_sorted _).imp (by intro a b h; simp at h ⊢; omega)
  have h2 : (sortD zs).reverse.Pairwise (fun x y => x ≤ y) := by
    rw [List.pairwise_reverse]
    exact (sortD_sorted zs).imp (by simp)
  have h3 : (sortU zs).Perm (sortD zs).reverse := by
    have : (sortU zs).Perm zs := by
      rw [← negL_neg (sortU zs), sortU_neg]
      have h := (sortD_perm (negL zs)).map (fun z => -z)
      exact h.trans (by show (negL (negL zs)).Perm zs; rw [negL_neg])
    exact this.trans ((sortD_perm zs).symm.trans (List.reverse_perm _).symm)
  exact h3.eq_of_pairwise (fun a b _ _ h1 h2 => by omega) h1 h2
theorem sortU_len (zs : List Int) : (sortU zs).length = zs.length := by rw [sortU_eq, List.length_reverse, sortD_len]
theorem sortU_take_succ (zs : List Int) (k : Nat) (h : k < zs.length) : sortU (zs.take (k + 1)) = insU (sortU (zs.take k)) (zs.getD k 0) := by
  unfold sortU
  rw [take_succ_getD k h, List.foldl_append]
  rfl
end Go.Proofs.YtegoapdbpfhkiaaGreat

/- The reference's list in increasing order. -/
namespace Go.Proofs.YtegoapdbpfhkiaaGreat
open Go.RowKit Go.Sort
set_option linter.unusedVariables false

theorem Sl.ext' {w w' : World} {B n : Nat} {A : Option Addr} {vs : List Value} (h : Sl w B A n vs) (x : Ext w w') (hB : B ≤ w.heap.size := by (first | exact Nat.le_refl _ | simp <;> omega)) : Sl w' B A n vs := h.keep fun p hp => x.cell (by omega)
theorem Sl.take_ext {w w' : World} {n k : Nat} {A : Option Addr} {zs : List Int} (h : SlI w w.heap.size A n zs) (hk : k ≤ n) (x : Ext w w') : SlI w' w.heap.size A k (zs.take k) := by
  have h2 := Sl.cutTo (k := k) h hk
  rw [← List.map_take] at h2
  exact SlI.ext h2 x (Nat.le_refl _)
set_option maxRecDepth 100000 in
set_option maxHeartbeats 2000000 in
theorem s.jdSorted_any (A : Option Addr) (n c B : Nat) (zs : List Int) (w : World) (h : SlI w B A n zs) (hB : B ≤ w.heap.size) (hn : n ≤ 1048576) :
    Calls Tryz.prog 42 #[.slice A n c] w fun e w' => ∃ A' c', e = .returned (.slice A' n c') ∧ OwnI 3 w' w.heap.size A' n c' (sortU zs) ∧ Ext w w' := by
  have hl := hide h.len
  have HS := hide h
  clear h
  go_enter Tryz.func42, Tryz.ntmps42
  go_wp2
  go_loopw [3, 5, 6, 9] (fun o _ _ i wr => ∃ (j : Nat) (A' : Option Addr) (c' : Nat), j ≤ n ∧ i = .int .i64 j ∧ o = .slice A' j c' ∧ OwnI 3 wr w.heap.size A' j c' (sortU (zs.take j)) ∧ Ext w wr) (fun _ _ _ i _ => n - (intOf i).toNat)
  case atStart => exact ⟨0, none, 0, Nat.zero_le _, rfl, rfl, OwnI.nil, Ext.refl _⟩
  case round =>
    obtain ⟨j, A', c', hj, rfl, rfl, hown, hx⟩ := hrel
    have HO := hide hown
    have HX := hide hx
    clear hown hx
    by_cases hlt : j < n
    · obtain ⟨b, off, rfl, hb, hc⟩ := (HS.out.ext HX.out hB).cells (by omega)
      have hck := hc j hlt
      have hins := hide (sortU_take_succ zs j (by have := hl.out; omega))
      have hlj : Hid ((sortU (zs.take j)).length = j) := by show _ = _; rw [sortU_len]; simp [hl.out]; omega
      clear hc
      generalize zs.getD j 0 = x at *
      generalize sortU (zs.take j) = out at *
      have hcapn := HO.out.capn
      have hcapm := HO.out.capm
      go_wp2
      obtain ⟨wo, rfl⟩ : ∃ wo : World, wo = wr := ⟨_, rfl⟩
      go_loop [6] (fun q => ∃ k : Nat, k ≤ j ∧ q = .int .i64 k ∧ posU out x k = posU out x j) (fun q => (intOf q).toNat)
      case atStart => exact ⟨j, Nat.le_refl _, rfl, rfl⟩
      case round =>
        obtain ⟨k, hk, rfl, hpos⟩ := hrel
        have HP := hide hpos
        clear hpos
        by_cases hgo : 0 < k ∧ x < out.getD (k - 1) 0
        · obtain ⟨hk0, hyx⟩ := hgo
          obtain ⟨k', rfl⟩ : ∃ k', k = k' + 1 := ⟨k - 1, by omega⟩
          obtain ⟨b', off', rfl, hb', hc'⟩ := HO.out.sl.cells (by omega)
          have hck' := hc' k' (by omega)
          clear hc'
          have hpk : Hid (posU out x (k' + 1) = if x < out.getD k' 0 then posU out x k' else k' + 1) := by show _ = _; rfl
          simp only [Nat.add_sub_cancel] at hyx
          generalize out.getD k' 0 = y at *
          go_wp2
          go_round
          case rel => exact ⟨k', by omega, rfl, by rw [← HP.out, hpk.out, if_pos hyx]⟩
          case measure => simp [intOf]
        · have HK : Hid (posU out x j = k) := by
            show _ = _
            rw [← HP.out]
            cases k with
            | zero => rfl
            | succ k' =>
              have : ¬ x < out.getD k' 0 := fun h => hgo ⟨by omega, by simpa using h⟩
              unfold posU
              rw [if_neg this]
          have HI : Hid (insU out x = (out.take k ++ [x]) ++ out.drop k) := by show insU out x = _; unfold insU; rw [hlj.out, HK.out]; simp
          clear HP HK
          have OWN := hide (fun (wq : World) (xq : Ext wo wq) => s.l1Own_any A' k c' wo.heap.size (out.take k) wq (Sl.take_ext HO.out.sl hk xq) xq.size (by omega))
          have cases_k : k = 0 ∨ ∃ k', k = k' + 1 ∧ ∃ b' off', A' = some ⟨b', off', none⟩ ∧ (wo.cell? ⟨b', off' + k', none⟩ = some (.int .i64 (out.getD k' 0))) ∧ ¬ x < out.getD k' 0 := by
            cases k with
            | zero => exact .inl rfl
            | succ k' =>
              obtain ⟨b', off', e, hb', hc'⟩ := HO.out.sl.cells (by omega)
              exact .inr ⟨k', rfl, b', off', e, hc' k' (by omega), fun h => hgo ⟨by omega, by simpa using h⟩⟩
          clear hgo
          rcases cases_k with rfl | ⟨k', rfl, b', off', rfl, hck', hyx⟩
          · have SD : Hid (SlI wo wo.heap.size A' j (out.drop 0)) := HO.out.sl
            go_wp2
            go_region_held3 (fun w' => True) (exact trivial)
              (first
              | (go_at_call 74; refine (OWN.out _ (by (first | with_reducible exact Ext.drew _ | with_reducible exact (Ext.alloc _ _).trans (Ext.drew _)))).mono ?_; rintro e w1 ⟨A1, c1, rfl, o1, x1⟩; have Y1 : Hid (Ext wo w1) := Ext.trans (by (first | with_reducible exact Ext.drew _ | with_reducible exact (Ext.alloc _ _).trans (Ext.drew _))) x1; have O1 : Hid (OwnI 3 w1 wo.heap.size A1 0 c1 (out.take 0)) := OwnI.lower o1 (by simp); have F1 := hide (Own.fromLo o1); have SD1 := hide (SD.out.ext' Y1.out); have X1 := hide x1; have sz1 := Y1.out.size; clear o1 x1)
              | (refine step_append_sl (by rfl) (.tmp 31) (.tmp 33) (by rfl) elem_int (by rfl) (by rfl) (lo := wo.heap.size) (Own.alloc O1.out _) (Sl.one w1 (.int .i64 x) 3) (one_int x) (by omega) (by omega) (by simp <;> omega) ?_; intro A2 c2 w2 hap2; have SD2 := hide ((SD1.out.alloc sz1 _).apdLo (by simp <;> omega) hap2 (fun p hp => by have := F1.out p hp; simp at this; omega)); have X2 := hide (hap2.ext (Y1.out.trans (Ext.alloc _ _)) (fun p hp => by have := F1.out p hp; simp at this; omega)); have O2 := hide hap2.own; have sz2 := X2.out.size; clear hap2)
              | (refine step_append_sl (by rfl) (.tmp 31) (.tmp 33) (by rfl) elem_int (by rfl) (by rfl) (lo := wo.heap.size) O1.out (Sl.ext' ((Sl.one wo (.int .i64 x) 3).drew) X1.out) (one_int x) (by omega) (by omega) (by omega) ?_; intro A2 c2 w2 hap2; have SD2 := hide (SD1.out.apdLo sz1 hap2 (fun p hp => by have := F1.out p hp; simp at this; omega)); have X2 := hide (hap2.ext Y1.out (fun p hp => by have := F1.out p hp; simp at this; omega)); have O2 := hide hap2.own; have sz2 := X2.out.size; clear hap2)
              | (refine step_append_sl (by rfl) (.tmp 34) (.tmp 37) (by rfl) elem_int (by rfl) (by rfl) (lo := wo.heap.size) O2.out SD2.out (oneCell_ints _) (by omega) (by omega) sz2 ?_; intro A3 c3 w3 hap3; have X3 := hide (hap3.ext X2.out (Own.fromLo O2.out)); have O3 := hide hap3.own; clear hap3))
            all_goals
              go_wp2
              go_roundw
              case rel => exact ⟨j + 1, A3, c3, by omega, by go_num, congrArg (fun m => Value.slice A3 m c3) (by omega), own_conv O3.out HX.out.size (by omega) (by rw [hins.out, HI.out]; simp), HX.out.trans X3.out⟩
              case measure => simp [intOf]; omega
          · have q1 : (k' : Int) + 1 ≤ j := by omega
            have q2 : (k' : Int) + 1 ≤ c' := by omega
            have q0 : 0 ≤ (k' : Int) + 1 := by omega
            generalize out.getD k' 0 = y at *
            have SD : Hid (Sl wo wo.heap.size (if c' = k' + 1 then some ⟨b', off', none⟩ else some ⟨b', off' + (k' + 1), none⟩) (j - (k' + 1)) ((out.drop (k' + 1)).map (Value.int .i64))) := by
              show Sl _ _ _ _ _
              rw [List.map_drop]
              exact Sl.cutFrom HO.out.sl (by omega) (fun h => by rw [if_neg (by omega)])
            by_cases hcc : c' = k' + 1
            case' pos => subst hcc; rw [if_pos rfl, show j - (k' + 1) = 0 by omega] at SD
            case' neg => rw [if_neg hcc] at SD
            all_goals
              go_wp2
              go_region_held3 (fun w' => True) (exact trivial)
                (first
                | (go_at_call 74; refine (OWN.out _ (by (first | with_reducible exact Ext.drew _ | with_reducible exact (Ext.alloc _ _).trans (Ext.drew _)))).mono ?_; rintro e w1 ⟨A1, c1, rfl, o1, x1⟩; have Y1 : Hid (Ext wo w1) := Ext.trans (by (first | with_reducible exact Ext.drew _ | with_reducible exact (Ext.alloc _ _).trans (Ext.drew _))) x1; have O1 : Hid (OwnI 3 w1 wo.heap.size A1 (k' + 1) c1 (out.take (k' + 1))) := OwnI.lower o1 (by simp); have F1 := hide (Own.fromLo o1); have SD1 := hide (SD.out.ext' Y1.out); have X1 := hide x1; have sz1 := Y1.out.size; clear o1 x1)
                | (refine step_append_sl (by rfl) (.tmp 31) (.tmp 33) (by rfl) elem_int (by rfl) (by rfl) (lo := wo.heap.size) (Own.alloc O1.out _) (Sl.one w1 (.int .i64 x) 3) (one_int x) (by omega) (by omega) (by simp <;> omega) ?_; intro A2 c2 w2 hap2; have SD2 := hide ((SD1.out.alloc sz1 _).apdLo (by simp <;> omega) hap2 (fun p hp => by have := F1.out p hp; simp at this; omega)); have X2 := hide (hap2.ext (Y1.out.trans (Ext.alloc _ _)) (fun p hp => by have := F1.out p hp; simp at this; omega)); have O2 := hide hap2.own; have sz2 := X2.out.size; clear hap2)
                | (refine step_append_sl (by rfl) (.tmp 31) (.tmp 33) (by rfl) elem_int (by rfl) (by rfl) (lo := wo.heap.size) O1.out (Sl.ext' ((Sl.one wo (.int .i64 x) 3).drew) X1.out) (one_int x) (by omega) (by omega) (by omega) ?_; intro A2 c2 w2 hap2; have SD2 := hide (SD1.out.apdLo sz1 hap2 (fun p hp => by have := F1.out p hp; simp at this; omega)); have X2 := hide (hap2.ext Y1.out (fun p hp => by have := F1.out p hp; simp at this; omega)); have O2 := hide hap2.own; have sz2 := X2.out.size; clear hap2)
                | (refine step_append_sl (by rfl) (.tmp 34) (.tmp 37) (by rfl) elem_int (by rfl) (by rfl) (lo := wo.heap.size) O2.out SD2.out (oneCell_ints _) (by omega) (by omega) sz2 ?_; intro A3 c3 w3 hap3; have X3 := hide (hap3.ext X2.out (Own.fromLo O2.out)); have O3 := hide hap3.own; clear hap3))
              all_goals
                go_wp2
                go_roundw
                case rel => exact ⟨j + 1, A3, c3, by omega, by go_num, congrArg (fun m => Value.slice A3 m c3) (by omega), own_conv O3.out HX.out.size (by omega) (by rw [hins.out, HI.out]; simp), HX.out.trans X3.out⟩
                case measure => simp [intOf]; omega
    · go_wp2
      go_ret
      have ej : j = n := by omega
      refine ⟨A', c', ?_, ?_, HX.out⟩
      · subst ej; rfl
      · subst ej
        have := HO.out
        rwa [List.take_of_length_le (by rw [hl.out]; exact Nat.le_refl _)] at this
end Go.Proofs.YtegoapdbpfhkiaaGreat

/- PlanBound. -/
namespace Go.Proofs.YtegoapdbpfhkiaaGreat
open Go.RowKit Go.Sort
set_option linter.unusedVariables false

theorem i.isCount_any (z : Int) (w : World) : Calls Tryz.prog 30 #[.int .i64 z] w fun e w' => e = .returned (.bool (inB 1 14 z)) ∧ w = w' := by
  go_enter Tryz.func30, Tryz.ntmps30
  go_wp2_with (go_at_call 60; refine (i.within_any _ _ _ _).mono ?_; rintro e w' ⟨rfl, rfl⟩)
  go_ret
  exact ⟨rfl, rfl⟩
def askB (d : CoD) (n : Int) : Bool := codeB d && inB 1 14 n
theorem inB_ok {lo hi n : Int} (h : inB lo hi n = true) : lo ≤ n ∧ n ≤ hi := by
  simpa only [inB, Bool.and_eq_true, decide_eq_true_eq] using h
set_option maxRecDepth 100000 in
theorem s.pnAsked_m (w : World) (v : Value) (d : CoD) (n : Int) (h : kC.rd w v d) (hok : kC.ok d) :
    Calls Tryz.prog 38 #[v, .int .i64 n] w fun e w' => e = .returned (.bool (askB d n)) ∧ Ext w w' := by
  obtain ⟨Ac, nc, cc, Al, nl, cl, r, b, p, f, rfl⟩ := kC.shape h
  obtain ⟨W0, hW0⟩ : ∃ W0, Hid (W0 = w.alloc (.cells #[.slice Ac nc cc, .slice Al nl cl, .int .i64 r, .int .i64 b, .int .i64 p, .int .i64 f] 26)) := ⟨_, rfl⟩
  have X0 : Hid (Ext w W0) := by rw [hW0.out]; exact Ext.alloc w _
  have CQ := hide (s.cdGood_m W0 _ d (kC.rd_ext h X0.out) hok)
  clear h
  obtain ⟨R, hR⟩ : ∃ R, Hid (askB d n = R) := ⟨_, rfl⟩
  rw [hR.out]
  go_enter Tryz.func38, Tryz.ntmps38
  go_wp2_with fail
  rw [← hW0.out]
  clear hW0
  refine CQ.out.mono ?_
  rintro e w1 ⟨rfl, x1⟩
  have X1 := hide (X0.out.trans x1)
  clear x1 CQ X0
  cases hc : codeB d
  · have HR : Hid (R = false) := by show _ = _; rw [← hR.out]; simp [askB, hc]
    clear hc
    go_wp2
    go_ret
    exact ⟨ret_bool HR.out.symm, X1.out⟩
  · have HR : Hid (R = inB 1 14 n) := by show _ = _; rw [← hR.out]; simp [askB, hc]
    clear hc
    go_wp2_with (go_at_call 71; refine (s.l1In_any _ _ _ _).mono ?_; rintro e w' ⟨rfl, rfl⟩)
    go_ret
    exact ⟨ret_bool HR.out.symm, X1.out⟩

theorem own_snoc {e : TypeId} {w : World} {lo m c : Nat} {A : Option Addr} {zs : List Int} {z : Int} (h : Own e w lo A (m + 1) c (zs.map (Value.int .i64) ++ [.int .i64 z])) : OwnI e w lo A (m + 1) c (zs ++ [z]) := own_conv h (Nat.le_refl _) rfl (by rw [List.map_append]; rfl)
theorem repl_snoc (zs : List Int) (j : Nat) (z : Int) : (zs ++ List.replicate j z) ++ [z] = zs ++ List.replicate (j + 1) z := by rw [List.append_assoc, List.replicate_succ']

set_option maxRecDepth 100000 in
set_option maxHeartbeats 4000000 in
theorem i.PlanBound_law (w : World) (v : Value) (d : CoD) (n : Int) (h : kC.rd w v d) (hok : kC.ok d) (_hn : InR n) :
    Calls Tryz.prog 13 #[v, .int .i64 n] w fun e w' => e = .returned (.tuple #[.int .i64 (planF d n).1, .bool (planF d n).2]) ∧ Ext w w' := by
  obtain ⟨Ac, cc, Al, cl, rfl, hle, _⟩ := kC.lr h
  obtain ⟨F, hF⟩ : ∃ F, Hid (planF d n = F) := ⟨_, rfl⟩
  rw [hF.out]
  obtain ⟨nc, NC⟩ : ∃ z, Hid (d.1.length = z) := ⟨_, rfl⟩
  obtain ⟨nl, NL⟩ : ∃ z, Hid (d.2.1.length = z) := ⟨_, rfl⟩
  obtain ⟨r, RN⟩ : ∃ z, Hid (d.2.2.1 = z) := ⟨_, rfl⟩
  obtain ⟨b, BN⟩ : ∃ z, Hid (d.2.2.2.1 = z) := ⟨_, rfl⟩
  obtain ⟨p, PN⟩ : ∃ z, Hid (d.2.2.2.2.1 = z) := ⟨_, rfl⟩
  obtain ⟨f, FN⟩ : ∃ z, Hid (d.2.2.2.2.2 = z) := ⟨_, rfl⟩
  rw [NC.out, NL.out, RN.out, BN.out, PN.out, FN.out] at h ⊢
  have HL := hide hle
  have a1 := hle.1; have a2 := hle.2.1
  rw [NC.out] at a1
  obtain ⟨W0, hW0⟩ : ∃ W0, Hid (W0 = w.alloc (.cells #[.slice Ac nc cc, .slice Al nl cl, .int .i64 r, .int .i64 b, .int .i64 p, .int .i64 f] 26)) := ⟨_, rfl⟩
  have X0 : Hid (Ext w W0) := by rw [hW0.out]; exact Ext.alloc w _
  have B0 : Hid (Blk W0 w.heap.size #[.slice Ac nc cc, .slice Al nl cl, .int .i64 r, .int .i64 b, .int .i64 p, .int .i64 f] 26) := by rw [hW0.out]; exact Blk.new rfl _ _
  have CQ := hide (i.IsCode_m W0 _ d (kC.rd_ext h X0.out) hok)
  clear h hle hok
  go_enter Tryz.func13, Tryz.ntmps13
  go_wp2_with fail
  rw [← hW0.out]
  clear hW0
  refine CQ.out.mono ?_
  rintro e w1 ⟨rfl, x1⟩
  have X1 := hide (X0.out.trans x1)
  have B1 := hide (B0.out.ext x1)
  clear x1 CQ X0 B0
  cases hc : codeB d
  · have HF : Hid (F = (0, false)) := by show _ = _; rw [← hF.out]; simp [planF, hc]
    clear hc
    go_wp2
    go_ret2
    rw [HF.out]
    exact ⟨rfl, X1.out⟩
  have HC := hide (codeB_ok hc)
  cases hi : inB 1 14 n
  · have HF : Hid (F = (0, false)) := by show _ = _; rw [← hF.out]; simp [planF, hi]
    have HI := hide hi
    clear hc hi
    go_wp2_with (go_at_call 30; refine (i.isCount_any _ _).mono ?_; rintro e w' ⟨rfl, rfl⟩; rw [HI.out])
    go_ret2
    rw [HF.out]
    exact ⟨rfl, X1.out⟩
  have HF : Hid (F = ((planS d n * (100 + b) + 99) / 100 + n, true)) := by show _ = _; rw [← hF.out, ← BN.out]; simp [planF, hc, hi]
  have HI := hide hi
  have hb := inB_ok hi
  have n1 := hb.1; have n2 := hb.2
  clear hc hi hb hF
  have h24 := HC.out.n2
  have h1c := HC.out.n1
  have hr := HC.out.rep
  have hbo := HC.out.bon
  rw [NC.out] at h24 h1c
  rw [RN.out] at hr
  rw [BN.out] at hbo
  obtain ⟨rN, hrN⟩ : ∃ rN : Nat, r = rN := ⟨r.toNat, by omega⟩
  subst hrN
  have r1 : 1 ≤ rN := by omega
  have r3 : rN ≤ 3 := by omega
  have hb0 := hbo.1; have hb1 := hbo.2
  clear hr hbo
  have BK := hide (fun k (hk : k ≤ nc) => show (basK d.1 rN k).length ≤ 72 by rw [basK_len _ _ _ (by rw [NC.out]; exact hk)]; exact Nat.le_trans (Nat.mul_le_mul (show k ≤ 24 by omega) r3) (by decide))
  have z1 := X1.out.size
  have XA := hide (X1.out.trans (Ext.alloc w1 (.cells #[] 3)))
  have BA := hide (B1.out.alloc (.cells #[] 3))
  have OA : Hid (OwnI 3 (w1.alloc (.cells #[] 3)) w1.heap.size (some ⟨w1.heap.size, 0, none⟩) 0 0 (basK d.1 rN 0)) := Own.empty w1 3 (Nat.le_refl _)
  have YA := hide (Ext.alloc w1 (.cells #[] 3))
  have cB := BA.out.cell
  go_wp2_with (go_at_call 30; refine (i.isCount_any _ _).mono ?_; rintro e w' ⟨rfl, rfl⟩; rw [HI.out])
  clear cB BA XA
  go_loopw [6, 22] (fun o i0 wr => ∃ (k m : Nat) (A' : Option Addr) (c' : Nat), k ≤ nc ∧ i0 = .int .i64 k ∧ o = .slice A' m c' ∧ OwnI 3 wr w1.heap.size A' m c' (basK d.1 rN k) ∧ Ext w1 wr) (fun _ i0 _ => nc - (intOf i0).toNat)
  case atStart => exact ⟨0, 0, _, _, Nat.zero_le _, rfl, rfl, OA.out, YA.out⟩
  case round =>
    obtain ⟨k, m, A', c', hk, rfl, rfl, hown, hx⟩ := hrel
    have HO := hide hown
    have HX := hide hx
    have oc1 := hown.capn; have oc2 := hown.capm
    clear hown hx OA YA
    have m72 : m ≤ 72 := by have h8 := BK.out k hk; rw [HO.out.len] at h8; exact h8
    obtain ⟨wo, rfl⟩ : ∃ wo : World, wo = wr := ⟨_, rfl⟩
    by_cases hlt : k < nc
    · obtain ⟨x, hxk⟩ : ∃ x, Hid (d.1[k]? = some x) := get_ex d.1 k (by rw [NC.out]; exact hlt)
      obtain ⟨bb, off, rfl, hbb, q0, q1, q2, q3, _⟩ := (HL.out.ext (X1.out.trans HX.out) (Nat.le_refl _)).element k x hxk.out
      have BS := hide (basK_succ (r := rN) hxk.out)
      have BKs := BK.out (k + 1) (by omega)
      rw [BS.out, List.length_append, HO.out.len, List.length_replicate] at BKs
      obtain ⟨W1, hW1⟩ : ∃ W1, Hid (W1 = wo.alloc (.cells #[.string (bs x.1), .int .i64 x.2.1, .int .i64 x.2.2.1, .int .i64 x.2.2.2] 47)) := ⟨_, rfl⟩
      have XW : Hid (Ext wo W1) := by rw [hW1.out]; exact Ext.alloc _ _
      have BW : Hid (Blk W1 wo.heap.size #[.string (bs x.1), .int .i64 x.2.1, .int .i64 x.2.2.1, .int .i64 x.2.2.2] 47) := by rw [hW1.out]; exact Blk.new rfl _ _
      have B2 := hide ((B1.out.ext HX.out).ext XW.out)
      have O2 : Hid (OwnI 3 W1 w1.heap.size A' m c' (basK d.1 rN k ++ List.replicate 0 (baseE x))) := by
        show OwnI _ _ _ _ _ _ _
        rw [List.replicate_zero, List.append_nil]
        exact HO.out.below XW.out (Nat.le_refl _)
      have zo := HX.out.size
      have zw := XW.out.size
      have BE : Hid (baseE x = x.2.2.2) := rfl
      rw [BE.out] at BS O2
      have Y2 := hide (HX.out.trans XW.out)
      have NE : Hid (∀ p, A' = some p → p.block ≠ wo.heap.size) := fun p hp => by
        rcases OwnI.form HO.out with ⟨h, _⟩ | ⟨g, h, _, h2, _⟩
        · rw [h] at hp; cases hp
        · rw [h] at hp; injection hp with hp; subst hp; simp; omega
      generalize bs x.1 = x0 at *
      generalize x.2.1 = x1 at *
      generalize x.2.2.1 = x2 at *
      generalize x.2.2.2 = Z at *
      have cB := B2.out.cell
      rw [hW1.out] at cB
      go_wp2
      rw [← hW1.out]
      clear hW1 q0 q1 q2 q3 cB
      go_loopw [6, 28] (fun o i0 wr => ∃ (j m' : Nat) (A9 : Option Addr) (c9 : Nat), j ≤ rN ∧ m' = m + j ∧ i0 = .int .i64 j ∧ o = .slice A9 m' c9 ∧ OwnI 3 wr w1.heap.size A9 m' c9 (basK d.1 rN k ++ List.replicate j Z) ∧ Blk wr wo.heap.size #[.string x0, .int .i64 x1, .int .i64 x2, .int .i64 Z] 47 ∧ (∀ p, A9 = some p → p.block ≠ wo.heap.size) ∧ Ext w1 wr) (fun _ i0 _ => rN - (intOf i0).toNat)
      case atStart => exact ⟨0, m, _, _, Nat.zero_le _, rfl, rfl, rfl, O2.out, BW.out, NE.out, Y2.out⟩
      case round =>
        obtain ⟨j, m', A9, c9, hj, hm', rfl, rfl, hown, hbw, hne, hx⟩ := hrel
        have HM : m' ≤ m + j := by omega
        have HM' := hide hm'
        have HO9 := hide hown
        have HX9 := hide hx
        have od1 := hown.capn; have od2 := hown.capm
        have BW9 := hide hbw
        have NE9 := hide hne
        clear hown hx O2 Y2 hm' hbw hne
        by_cases hlj : j < rN
        · have cW := BW9.out.cell
          have z9 := HX9.out.size
          have z8 := BW9.out.lt
          obtain ⟨L, hL⟩ : ∃ L, Hid (basK d.1 rN k ++ List.replicate j Z = L) := ⟨_, rfl⟩
          rw [hL.out] at HO9
          go_wp2_with (at_builtin; refine wpList_append_sl rfl (.tmp 30) (.tmp 33) rfl elem_int rfl rfl (lo := w1.heap.size) (Own.alloc HO9.out (.cells #[.int .i64 Z] 3)) (Sl.one wr (.int .i64 Z) 3) (one_int _) ?c1 ?c2 ?c3 ?_)
          case c1 => omega
          case c2 => omega
          case c3 => simp; omega
          intro A8 c8 w8 hap
          have Y8 := hide (hap.ext (HX9.out.trans (Ext.alloc wr _)) (Own.fromLo HO9.out))
          have BW8 := hide ((BW9.out.alloc (.cells #[.int .i64 Z] 3)).tchF (fp := (A9.map (·.block)).toList) (TchF.of_grown hap.grew (fun p hp => by rw [hp]; simp)) (fun hm => by obtain ⟨p, hp, he⟩ := mem_of_opt hm; exact NE9.out p hp he))
          have NE8 : Hid (∀ p, A8 = some p → p.block ≠ wo.heap.size) := fun p hp => by
            have h8 := hap.where_
            rw [hp] at h8
            rcases h8 with h8 | h8
            · cases hA : A9 with
              | none => rw [hA] at h8; cases h8
              | some q => rw [hA] at h8; simp at h8; rw [h8]; exact NE9.out q hA
            · simp at h8; omega
          have HAP := hide hap
          clear hap cW
          go_wp2
          go_roundw
          case rel => exact ⟨j + 1, m' + 1, A8, c8, by omega, by have := HM'.out; omega, by go_num, rfl, by rw [← repl_snoc, hL.out]; exact own_snoc HAP.out.own, BW8.out, NE8.out, Y8.out⟩
          case measure => simp [intOf]; omega
        · have ej : rN = j := by omega
          subst ej
          go_wp2
          go_roundw
          case rel => exact ⟨k + 1, m', A9, c9, by omega, by go_num, rfl, by rw [BS.out]; exact HO9.out, HX9.out⟩
          case measure => simp [intOf]; omega
    · have ek : nc = k := by omega
      subst ek
      have BL : Hid (basL d = basK d.1 rN nc) := by show _ = _; unfold basL; rw [RN.out, NC.out, Int.toNat_natCast]
      have m1 : 0 < m := by
        rw [← HO.out.len, basK_len _ _ _ (by rw [NC.out]; exact Nat.le_refl _)]
        exact Nat.mul_pos (by omega) (by omega)
      obtain ⟨g, rfl, hg1, hg2, _⟩ := OwnI.pos HO.out m1
      have BD := basK_bd HC.out rN nc
      rw [← BL.out] at BD HO
      have XO := hide (X1.out.trans HX.out)
      have BO := hide (B1.out.ext HX.out)
      have zo := HX.out.size
      have SO := hide (sortOwn_any g c' w1.heap.size m _ wo HO.out (by omega))
      go_wp2_with fail
      refine SO.out.mono ?_
      rintro e w2 ⟨rfl, o2, g2⟩
      have x2 : Ext w1 w2 := below_grown (A := some ⟨g, 0, none⟩) HX.out g2 (by omega) (fun p hp => by injection hp with hp; subst hp; exact hg1)
      have RO := hide (reverseOwn_any g c' w1.heap.size m _ w2 o2 (by omega))
      have X2 := hide x2
      clear x2 o2 g2 SO
      go_wp2_with fail
      refine RO.out.mono ?_
      rintro e w3 ⟨rfl, o3, g3⟩
      have z2 := X2.out.size
      have x3 : Ext w1 w3 := below_grown (A := some ⟨g, 0, none⟩) X2.out g3 (by omega) (fun p hp => by injection hp with hp; subst hp; exact hg1)
      rw [List.reverse_reverse] at o3
      have X3 := hide x3
      have B3 := hide (B1.out.ext x3)
      obtain ⟨q, hq⟩ : ∃ q : Nat, min (n + 4) (m : Int) = q := ⟨(min (n + 4) (m : Int)).toNat, by omega⟩
      have hqm : q ≤ m := by omega
      have hqn : (q : Int) ≤ n + 4 := by omega
      have SLQ : Sl w3 w3.heap.size (some ⟨g, 0, none⟩) q ((sortD (basL d)).take q |>.map (Value.int .i64)) := by
        have h8 := Sl.cutTo (k := q) o3.sl hqm
        rwa [← List.map_take] at h8
      have SMq : ∀ z ∈ (sortD (basL d)).take q, 0 ≤ z ∧ z ≤ 2000 := fun z hz => BD z ((sortD_perm _).mem_iff.1 (List.mem_of_mem_take hz))
      have SUM := hide (i.sumInts_any (some ⟨g, 0, none⟩) q c' w3.heap.size _ w3 SLQ (by omega) (small_of SMq))
      have PS : Hid (((sortD (basL d)).take q).sum = planS d n) := by
        show _ = _
        have hl : (sortD (basL d)).length = m := by rw [sortD_len]; exact HO.out.len
        unfold planS topS
        by_cases h9 : n + 4 ≤ (m : Int)
        · rw [show (n + 4).toNat = q by omega]
        · rw [List.take_of_length_le (by omega), List.take_of_length_le (by omega)]
      have sb := take_bd SMq
      rw [List.length_take, PS.out] at sb
      rw [PS.out] at SUM
      generalize planS d n = Sk at *
      have h0 : 0 ≤ Sk * (100 + b) := Int.mul_nonneg (by omega) (by omega)
      have h1 : Sk * (100 + b) ≤ Sk * 120 := Int.mul_le_mul_of_nonneg_left (by omega) (by omega)
      have h2 : Sk * (100 + b) ≤ 100000000 := by omega
      clear h1 x3 o3 g3 RO SLQ SMq BD
      have cB := B3.out.cell
      have HQ := hide hq
      have q0 : 0 ≤ min (n + 4) (m : Int) := by omega
      have q1 : min (n + 4) (m : Int) ≤ (c' : Int) := by omega
      have q2 : (min (n + 4) (m : Int)).toNat = q := by omega
      clear hq
      go_wp2_with (go_at_call 33; refine SUM.out.mono ?_; rintro e w4 ⟨rfl, rfl⟩)
      go_ret2
      rw [HF.out]
      exact ⟨rfl, X1.out.trans X3.out⟩
theorem tailS_bd {ys : List Int} (h : ∀ z ∈ ys, 0 ≤ z ∧ z ≤ 2000) (m k : Nat) : 0 ≤ tailS ys m k ∧ tailS ys m k ≤ 2000 * (ys.length : Int) := by
  unfold tailS
  have h1 := take_bd (l := (ys.take k).drop (ys.length - m)) (fun z hz => h z (List.mem_of_mem_take (List.mem_of_mem_drop hz)))
  have h2 : ((ys.take k).drop (ys.length - m)).length ≤ ys.length := by simp; omega
  omega
set_option maxRecDepth 100000 in
set_option maxHeartbeats 4000000 in
theorem s.PlanBound_law (w : World) (v : Value) (d : CoD) (n : Int) (h : kC.rd w v d) (hok : kC.ok d) (_hn : InR n) :
    Calls Tryz.prog 14 #[v, .int .i64 n] w fun e w' => e = .returned (.tuple #[.int .i64 (planF d n).1, .bool (planF d n).2]) ∧ Ext w w' := by
  obtain ⟨Ac, cc, Al, cl, rfl, hle, _⟩ := kC.lr h
  obtain ⟨F, hF⟩ : ∃ F, Hid (planF d n = F) := ⟨_, rfl⟩
  rw [hF.out]
  obtain ⟨nc, NC⟩ : ∃ z, Hid (d.1.length = z) := ⟨_, rfl⟩
  obtain ⟨nl, NL⟩ : ∃ z, Hid (d.2.1.length = z) := ⟨_, rfl⟩
  obtain ⟨r, RN⟩ : ∃ z, Hid (d.2.2.1 = z) := ⟨_, rfl⟩
  obtain ⟨b, BN⟩ : ∃ z, Hid (d.2.2.2.1 = z) := ⟨_, rfl⟩
  obtain ⟨p, PN⟩ : ∃ z, Hid (d.2.2.2.2.1 = z) := ⟨_, rfl⟩
  obtain ⟨f, FN⟩ : ∃ z, Hid (d.2.2.2.2.2 = z) := ⟨_, rfl⟩
  rw [NC.out, NL.out, RN.out, BN.out, PN.out, FN.out] at h ⊢
  have HL := hide hle
  have a1 := hle.1; have a2 := hle.2.1
  rw [NC.out] at a1
  obtain ⟨W0, hW0⟩ : ∃ W0, Hid (W0 = w.alloc (.cells #[.slice Ac nc cc, .slice Al nl cl, .int .i64 r, .int .i64 b, .int .i64 p, .int .i64 f] 26)) := ⟨_, rfl⟩
  have X0 : Hid (Ext w W0) := by rw [hW0.out]; exact Ext.alloc w _
  have B0 : Hid (Blk W0 w.heap.size #[.slice Ac nc cc, .slice Al nl cl, .int .i64 r, .int .i64 b, .int .i64 p, .int .i64 f] 26) := by rw [hW0.out]; exact Blk.new rfl _ _
  have CQ := hide (s.pnAsked_m W0 _ d n (kC.rd_ext h X0.out) hok)
  clear h hle hok
  go_enter Tryz.func14, Tryz.ntmps14
  go_wp2_with fail
  rw [← hW0.out]
  clear hW0
  refine CQ.out.mono ?_
  rintro e w1 ⟨rfl, x1⟩
  have X1 := hide (X0.out.trans x1)
  have B1 := hide (B0.out.ext x1)
  clear x1 CQ X0 B0
  cases hc : askB d n
  · have HF : Hid (F = (0, false)) := by show _ = _; rw [← hF.out]; unfold planF; rw [if_neg (by rw [show (codeB d && inB 1 14 n) = askB d n from rfl, hc]; decide)]
    clear hc
    go_wp2
    go_ret2
    rw [HF.out]
    exact ⟨rfl, X1.out⟩
  have HF : Hid (F = ((planS d n * (100 + b) + 99) / 100 + n, true)) := by show _ = _; rw [← hF.out, ← BN.out]; unfold planF; exact if_pos hc
  unfold askB at hc
  rw [Bool.and_eq_true] at hc
  have HC := hide (codeB_ok hc.1)
  have hb := inB_ok hc.2
  have n1 := hb.1; have n2 := hb.2
  clear hc hb hF
  have h24 := HC.out.n2
  have h1c := HC.out.n1
  have hr := HC.out.rep
  have hbo := HC.out.bon
  rw [NC.out] at h24 h1c
  rw [RN.out] at hr
  rw [BN.out] at hbo
  obtain ⟨rN, hrN⟩ : ∃ rN : Nat, r = rN := ⟨r.toNat, by omega⟩
  subst hrN
  have r1 : 1 ≤ rN := by omega
  have r3 : rN ≤ 3 := by omega
  have hb0 := hbo.1; have hb1 := hbo.2
  clear hr hbo
  have BK := hide (fun k (hk : k ≤ nc) => show (basK d.1 rN k).length ≤ 72 by rw [basK_len _ _ _ (by rw [NC.out]; exact hk)]; exact Nat.le_trans (Nat.mul_le_mul (show k ≤ 24 by omega) r3) (by decide))
  have z1 := X1.out.size
  have OA : Hid (OwnI 3 w1 w1.heap.size none 0 0 (basK d.1 rN 0)) := OwnI.nil
  have YA := hide (Ext.refl w1)
  have cB := B1.out.cell
  go_wp2
  clear cB
  go_loopw [6, 20] (fun o i0 wr => ∃ (k m : Nat) (A' : Option Addr) (c' : Nat), k ≤ nc ∧ i0 = .int .i64 k ∧ o = .slice A' m c' ∧ OwnI 3 wr w1.heap.size A' m c' (basK d.1 rN k) ∧ Ext w1 wr) (fun _ i0 _ => nc - (intOf i0).toNat)
  case atStart => exact ⟨0, 0, _, _, Nat.zero_le _, rfl, rfl, OA.out, YA.out⟩
  case round =>
    obtain ⟨k, m, A', c', hk, rfl, rfl, hown, hx⟩ := hrel
    have HO := hide hown
    have HX := hide hx
    have oc1 := hown.capn; have oc2 := hown.capm
    clear hown hx OA YA
    have m72 : m ≤ 72 := by have h8 := BK.out k hk; rw [HO.out.len] at h8; exact h8
    obtain ⟨wo, rfl⟩ : ∃ wo : World, wo = wr := ⟨_, rfl⟩
    by_cases hlt : k < nc
    · obtain ⟨x, hxk⟩ : ∃ x, Hid (d.1[k]? = some x) := get_ex d.1 k (by rw [NC.out]; exact hlt)
      obtain ⟨bb, off, rfl, hbb, q0, q1, q2, q3, _⟩ := (HL.out.ext (X1.out.trans HX.out) (Nat.le_refl _)).element k x hxk.out
      have BS := hide (basK_succ (r := rN) hxk.out)
      have BKs := BK.out (k + 1) (by omega)
      rw [BS.out, List.length_append, HO.out.len, List.length_replicate] at BKs
      obtain ⟨W1, hW1⟩ : ∃ W1, Hid (W1 = wo.alloc (.cells #[.string (bs x.1), .int .i64 x.2.1, .int .i64 x.2.2.1, .int .i64 x.2.2.2] 47)) := ⟨_, rfl⟩
      have XW : Hid (Ext wo W1) := by rw [hW1.out]; exact Ext.alloc _ _
      have BW : Hid (Blk W1 wo.heap.size #[.string (bs x.1), .int .i64 x.2.1, .int .i64 x.2.2.1, .int .i64 x.2.2.2] 47) := by rw [hW1.out]; exact Blk.new rfl _ _
      have B2 := hide ((B1.out.ext HX.out).ext XW.out)
      have O2 : Hid (OwnI 3 W1 w1.heap.size A' m c' (basK d.1 rN k ++ List.replicate 0 (baseE x))) := by
        show OwnI _ _ _ _ _ _ _
        rw [List.replicate_zero, List.append_nil]
        exact HO.out.below XW.out (Nat.le_refl _)
      have zo := HX.out.size
      have zw := XW.out.size
      have BE : Hid (baseE x = x.2.2.2) := rfl
      rw [BE.out] at BS O2
      have Y2 := hide (HX.out.trans XW.out)
      have NE : Hid (∀ p, A' = some p → p.block ≠ wo.heap.size) := fun p hp => by
        rcases OwnI.form HO.out with ⟨h, _⟩ | ⟨g, h, _, h2, _⟩
        · rw [h] at hp; cases hp
        · rw [h] at hp; injection hp with hp; subst hp; simp; omega
      generalize bs x.1 = x0 at *
      generalize x.2.1 = x1 at *
      generalize x.2.2.1 = x2 at *
      generalize x.2.2.2 = Z at *
      have cB := B2.out.cell
      rw [hW1.out] at cB
      go_wp2
      rw [← hW1.out]
      clear hW1 q0 q1 q2 q3 cB
      go_loopw [6, 9] (fun o i0 wr => ∃ (j m' : Nat) (A9 : Option Addr) (c9 : Nat), j ≤ rN ∧ m' = m + j ∧ i0 = .int .i64 j ∧ o = .slice A9 m' c9 ∧ OwnI 3 wr w1.heap.size A9 m' c9 (basK d.1 rN k ++ List.replicate j Z) ∧ Blk wr wo.heap.size #[.string x0, .int .i64 x1, .int .i64 x2, .int .i64 Z] 47 ∧ (∀ p, A9 = some p → p.block ≠ wo.heap.size) ∧ Ext w1 wr) (fun _ i0 _ => rN - (intOf i0).toNat)
      case atStart => exact ⟨0, m, _, _, Nat.zero_le _, rfl, rfl, rfl, O2.out, BW.out, NE.out, Y2.out⟩
      case round =>
        obtain ⟨j, m', A9, c9, hj, hm', rfl, rfl, hown, hbw, hne, hx⟩ := hrel
        have HM : m' ≤ m + j := by omega
        have HM' := hide hm'
        have HO9 := hide hown
        have HX9 := hide hx
        have od1 := hown.capn; have od2 := hown.capm
        have BW9 := hide hbw
        have NE9 := hide hne
        clear hown hx O2 Y2 hm' hbw hne
        have cR := (B1.out.ext HX9.out).cell
        by_cases hlj : j < rN
        · have cW := BW9.out.cell
          have z9 := HX9.out.size
          have z8 := BW9.out.lt
          obtain ⟨L, hL⟩ : ∃ L, Hid (basK d.1 rN k ++ List.replicate j Z = L) := ⟨_, rfl⟩
          rw [hL.out] at HO9
          go_wp2_with (at_builtin; refine wpList_append_sl rfl (.tmp 30) (.tmp 33) rfl elem_int rfl rfl (lo := w1.heap.size) (Own.alloc HO9.out (.cells #[.int .i64 Z] 3)) (Sl.one wr (.int .i64 Z) 3) (one_int _) ?c1 ?c2 ?c3 ?_)
          case c1 => omega
          case c2 => omega
          case c3 => simp; omega
          intro A8 c8 w8 hap
          have Y8 := hide (hap.ext (HX9.out.trans (Ext.alloc wr _)) (Own.fromLo HO9.out))
          have BW8 := hide ((BW9.out.alloc (.cells #[.int .i64 Z] 3)).tchF (fp := (A9.map (·.block)).toList) (TchF.of_grown hap.grew (fun p hp => by rw [hp]; simp)) (fun hm => by obtain ⟨p, hp, he⟩ := mem_of_opt hm; exact NE9.out p hp he))
          have NE8 : Hid (∀ p, A8 = some p → p.block ≠ wo.heap.size) := fun p hp => by
            have h8 := hap.where_
            rw [hp] at h8
            rcases h8 with h8 | h8
            · cases hA : A9 with
              | none => rw [hA] at h8; cases h8
              | some q => rw [hA] at h8; simp at h8; rw [h8]; exact NE9.out q hA
            · simp at h8; omega
          have HAP := hide hap
          clear hap cW cR
          go_wp2
          go_roundw
          case rel => exact ⟨j + 1, m' + 1, A8, c8, by omega, by have := HM'.out; omega, by go_num, rfl, by rw [← repl_snoc, hL.out]; exact own_snoc HAP.out.own, BW8.out, NE8.out, Y8.out⟩
          case measure => simp [intOf]; omega
        · have ej : rN = j := by omega
          subst ej
          go_wp2
          clear cR
          go_roundw
          case rel => exact ⟨k + 1, m', A9, c9, by omega, by go_num, rfl, by rw [BS.out]; exact HO9.out, HX9.out⟩
          case measure => simp [intOf]; omega
    · have ek : nc = k := by omega
      subst ek
      have BL : Hid (basL d = basK d.1 rN nc) := by show _ = _; unfold basL; rw [RN.out, NC.out, Int.toNat_natCast]
      have m1 : 0 < m := by
        rw [← HO.out.len, basK_len _ _ _ (by rw [NC.out]; exact Nat.le_refl _)]
        exact Nat.mul_pos (by omega) (by omega)
      have BD := basK_bd HC.out rN nc
      rw [← BL.out] at BD HO
      have JS := hide (s.jdSorted_any A' m c' wo.heap.size _ wo HO.out.sl (Nat.le_refl _) (by omega))
      have hl : Hid ((basL d).length = m) := HO.out.len
      go_wp2_with fail
      refine JS.out.mono ?_
      rintro e w2 ⟨A2, c2, rfl, o2, x2⟩
      rw [sortU_eq] at o2
      have X2 := hide (HX.out.trans x2)
      have B2 := hide (B1.out.ext X2.out)
      have z2 := X2.out.size
      have YS : Hid (∀ z ∈ (sortD (basL d)).reverse, 0 ≤ z ∧ z ≤ 2000) := fun z hz => BD z ((sortD_perm _).mem_iff.1 (List.mem_reverse.1 hz))
      have PS : Hid (tailS (sortD (basL d)).reverse (n + 4).toNat m = planS d n) := by show _ = _; rw [← hl.out, tailS_all]; rfl
      have SLN : Hid ((sortD (basL d)).reverse.length = m) := by show _ = _; rw [List.length_reverse, sortD_len]; exact hl.out
      obtain ⟨ys, hys⟩ : ∃ ys, Hid ((sortD (basL d)).reverse = ys) := ⟨_, rfl⟩
      rw [hys.out] at o2 YS PS SLN
      have O2 := hide o2.sl
      have T0 := hide (tailS_zero ys (n + 4).toNat)
      clear o2 x2 JS BD hys
      go_wp2
      go_loop [10, 39] (fun s i0 => ∃ k : Nat, k ≤ m ∧ i0 = .int .i64 k ∧ s = .int .i64 (tailS ys (n + 4).toNat k)) (fun _ i0 => m - (intOf i0).toNat)
      case atStart => exact ⟨0, Nat.zero_le _, rfl, by rw [T0.out]⟩
      case round =>
        obtain ⟨k, hk, rfl, rfl⟩ := hrel
        have TB := tailS_bd YS.out (n + 4).toNat k
        rw [SLN.out] at TB
        by_cases hlk : k < m
        · have TS := hide (tailS_succ ys (n + 4).toNat k (by rw [SLN.out]; exact hlk))
          obtain ⟨b8, o8, rfl, hb8, hc8⟩ := SlI.cells O2.out (by omega)
          have cK := hc8 k hlk
          have yb : 0 ≤ ys.getD k 0 ∧ ys.getD k 0 ≤ 2000 := YS.out _ (by rw [List.getD_eq_getElem?_getD, List.getElem?_eq_getElem (by rw [SLN.out]; exact hlk)]; exact List.getElem_mem _)
          clear hc8
          by_cases hq : (m : Int) - k ≤ n + 4
          · have TQ : Hid (tailS ys (n + 4).toNat (k + 1) = tailS ys (n + 4).toNat k + ys.getD k 0) := by show _ = _; rw [TS.out, if_pos (by rw [SLN.out]; omega)]
            generalize ys.getD k 0 = Y at *
            generalize tailS ys (n + 4).toNat k = T at *
            go_wp2
            go_round
            case rel => exact ⟨k + 1, by omega, by go_num, by rw [TQ.out]⟩
            case measure => simp [intOf]; omega
          · have TQ : Hid (tailS ys (n + 4).toNat (k + 1) = tailS ys (n + 4).toNat k) := by show _ = _; rw [TS.out, if_neg (by rw [SLN.out]; omega)]; omega
            generalize ys.getD k 0 = Y at *
            generalize tailS ys (n + 4).toNat k = T at *
            go_wp2
            go_round
            case rel => exact ⟨k + 1, by omega, by go_num, by rw [TQ.out]⟩
            case measure => simp [intOf]; omega
        · have ek : m = k := by omega
          subst ek
          rw [PS.out] at TB ⊢
          generalize planS d n = Sk at *
          have h0 : 0 ≤ Sk * (100 + b) := Int.mul_nonneg (by omega) (by omega)
          have h1 : Sk * (100 + b) ≤ Sk * 120 := Int.mul_le_mul_of_nonneg_left (by omega) (by omega)
          have h2 : Sk * (100 + b) ≤ 100000000 := by omega
          clear h1
          have cB := B2.out.cell
          go_wp2
          go_ret2
          rw [HF.out]
          exact ⟨rfl, X1.out.trans X2.out⟩
end Go.Proofs.YtegoapdbpfhkiaaGreat

/- How many elements each family has; MostSingles by the program. -/
namespace Go.Proofs.YtegoapdbpfhkiaaGreat
open Go.RowKit Go.Sort
set_option linter.unusedVariables false

def famE (d : CoD) (i : Nat) : Nat := (d.1.getD i noEl).2.1.toNat
def limE (d : CoD) (f : Nat) : Nat := (d.2.1.getD f 0).toNat
def basE (d : CoD) (i : Nat) : Int := (d.1.getD i noEl).2.2.2
theorem famE_eq {d : CoD} {i : Nat} {x : ElD} (h : d.1[i]? = some x) : famE d i = x.2.1.toNat := by unfold famE; rw [getD_some h]
theorem basE_eq {d : CoD} {i : Nat} {x : ElD} (h : d.1[i]? = some x) : basE d i = x.2.2.2 := by unfold basE; rw [getD_some h]
theorem famE_lt {d : CoD} (hd : CodeOk d) (i : Nat) : famE d i < 5 := by
  unfold famE
  cases hx : d.1[i]? with
  | none => rw [List.getD_eq_getElem?_getD, hx]; decide
  | some y => rw [getD_some hx]; have := elB_ok (hd.els _ _ hx); omega
theorem limE_eq {d : CoD} (hd : CodeOk d) {f : Nat} (hf : f < 5) : (limE d f : Int) = d.2.1.getD f 0 ∧ 0 ≤ d.2.1.getD f 0 ∧ d.2.1.getD f 0 ≤ 9 := by
  have hl := hd.lim
  have hm : d.2.1.getD f 0 ∈ d.2.1 := by
    rw [List.getD_eq_getElem?_getD, List.getElem?_eq_getElem (by omega)]
    exact List.getElem_mem _
  have := hd.limb _ hm
  unfold limE
  omega
/-- How many of the first k elements each family has. -/
def szA (d : CoD) (k f : Nat) : Int := (cntF (famE d) f (List.range k) : Nat)
def szL (d : CoD) (k : Nat) : List Int := (List.range 5).map (szA d k)
theorem szL_len (d : CoD) (k : Nat) : (szL d k).length = 5 := by simp [szL]
theorem szL_at (d : CoD) (k : Nat) {f : Nat} (hf : f < 5) : (szL d k).getD f 0 = szA d k f := by
  unfold szL
  rw [List.getD_eq_getElem?_getD, List.getElem?_map, List.getElem?_range hf]
  rfl
theorem szA_bd (d : CoD) (k f : Nat) : 0 ≤ szA d k f ∧ szA d k f ≤ k := by
  unfold szA cntF
  have := List.length_filter_le (fun i => famE d i == f) (List.range k)
  rw [List.length_range] at this
  omega
theorem szA_succ (d : CoD) (k f : Nat) : szA d (k + 1) f = szA d k f + (if famE d k = f then 1 else 0) := by
  unfold szA
  rw [List.range_succ, cntF_snoc]
  split <;> simp
theorem szL_zero (d : CoD) : szL d 0 = List.replicate 5 0 := rfl
theorem szL_succ {d : CoD} {k f : Nat} (h : famE d k = f) (hf : f < 5) : szL d (k + 1) = (szL d k).set f (szA d k f + 1) := by
  apply List.ext_getElem?
  intro i
  rw [List.getElem?_set, szL_len]
  unfold szL
  rw [List.getElem?_map, List.getElem?_map]
  by_cases hi : i < 5
  · rw [List.getElem?_range hi]
    simp only [Option.map_some]
    by_cases hk : f = i
    · subst hk
      rw [if_pos rfl, if_pos hf, szA_succ, if_pos h]
    · rw [if_neg hk, szA_succ, if_neg (by omega)]
      simp
  · rw [List.getElem?_eq_none (l := List.range 5) (by simp; omega)]
    rw [if_neg (by omega)]
    rfl

set_option maxRecDepth 100000 in
set_option maxHeartbeats 2000000 in
theorem i.familySizes_m (w : World) (v : Value) (d : CoD) (h : kC.rd w v d) (hd : CodeOk d) :
    Calls Tryz.prog 36 #[v] w fun e w' => ∃ A' c', e = .returned (.slice A' 5 c') ∧ OwnI 3 w' w.heap.size A' 5 c' (szL d d.1.length) ∧ Ext w w' := by
  obtain ⟨Ac, cc, Al, cl, rfl, hle, _⟩ := kC.lr h
  obtain ⟨i0, hi, hz0, hz1, hz2⟩ := info_parts info_int
  have HZ := hide hz2
  have HI0 := hide hi
  have HZ0 := hide hz0
  have HZ1 := hide hz1
  clear hz2 hi hz0 hz1
  obtain ⟨nc, NC⟩ : ∃ z, Hid (d.1.length = z) := ⟨_, rfl⟩
  obtain ⟨nl, NL⟩ : ∃ z, Hid (d.2.1.length = z) := ⟨_, rfl⟩
  obtain ⟨r, RN⟩ : ∃ z, Hid (d.2.2.1 = z) := ⟨_, rfl⟩
  obtain ⟨b, BN⟩ : ∃ z, Hid (d.2.2.2.1 = z) := ⟨_, rfl⟩
  obtain ⟨p, PN⟩ : ∃ z, Hid (d.2.2.2.2.1 = z) := ⟨_, rfl⟩
  obtain ⟨f, FN⟩ : ∃ z, Hid (d.2.2.2.2.2 = z) := ⟨_, rfl⟩
  rw [NC.out, NL.out, RN.out, BN.out, PN.out, FN.out]
  have HL := hide hle
  have a1 := hle.1; have a2 := hle.2.1
  have h24 := hd.n2
  rw [NC.out] at a1 h24
  have HD := hide hd
  clear h hle hd
  obtain ⟨W0, hW0⟩ : ∃ W0, Hid (W0 = w.alloc (.cells #[.slice Ac nc cc, .slice Al nl cl, .int .i64 r, .int .i64 b, .int .i64 p, .int .i64 f] 26)) := ⟨_, rfl⟩
  have X0 : Hid (Ext w W0) := by rw [hW0.out]; exact Ext.alloc w _
  have B0 : Hid (Blk W0 w.heap.size #[.slice Ac nc cc, .slice Al nl cl, .int .i64 r, .int .i64 b, .int .i64 p, .int .i64 f] 26) := by rw [hW0.out]; exact Blk.new rfl _ _
  have c0 := B0.out.cell
  rw [hW0.out] at c0
  go_enter Tryz.func36, Tryz.ntmps36
  go_wp2_with (at_make; rw [← hW0.out]; refine wpList_make_full _ rfl _ _ _ rfl W0.heap.size 3 i0 _ 1 Tryz.underlying24 HI0.out HZ0.out HZ1.out _ _ _ _ 5 rfl rfl rfl rfl ?c1 ?c2 ?c3 ?_)
  case c1 => rw [HZ.out]; omega
  case c2 => unfold maxLen; omega
  case c3 => exact Nat.le_refl _
  intro w2 hown hgrow
  clear hW0 c0
  rw [made_zeroR] at hown
  have hb1 : Ext W0 w2 := (Ext.refl W0).grown hgrow (Nat.le_refl _) (by simp)
  have O1 : Hid (OwnI 3 w2 W0.heap.size (some ⟨W0.heap.size, 0, none⟩) 5 5 (szL d 0)) := hown
  obtain ⟨g, hg⟩ : ∃ g, Hid (g = W0.heap.size) := ⟨_, rfl⟩
  rw [← hg.out] at O1
  rw [← hg.out]
  have O1g : Hid (OwnI 3 w2 g (some ⟨g, 0, none⟩) 5 5 (szL d 0)) := by rw [hg.out]; exact hown
  have gl : W0.heap.size ≤ g := by rw [hg.out]; exact Nat.le_refl _
  have z0 := X0.out.size
  have gw : g < w2.heap.size := by
    rcases OwnI.form O1.out with ⟨h, _⟩ | ⟨g', h, _, h2, _⟩
    · cases h
    · injection h with h; injection h with h; omega
  have X2 := hide hb1
  have B2 := hide (B0.out.ext hb1)
  clear hown hgrow hb1
  have cB := B2.out.cell
  go_wp2
  clear cB
  go_loopw [10] (fun i wr => ∃ (k : Nat), k ≤ nc ∧ i = .int .i64 k ∧ OwnI 3 wr g (some ⟨g, 0, none⟩) 5 5 (szL d k) ∧ Ext W0 wr) (fun i _ => nc - (intOf i).toNat)
  case atStart => exact ⟨0, Nat.zero_le _, rfl, O1g.out, X2.out⟩
  case round =>
    obtain ⟨k, hk, rfl, ho, hx⟩ := hrel
    clear O1 O1g X2
    have OK := hide ho
    have HX := hide hx
    clear ho hx
    by_cases hlt : k < nc
    · obtain ⟨x, hxk⟩ : ∃ x, Hid (d.1[k]? = some x) := get_ex d.1 k (by rw [NC.out]; exact hlt)
      obtain ⟨bb, off, rfl, hbb, q0, q1, q2, q3, _⟩ := (HL.out.ext (X0.out.trans HX.out) (Nat.le_refl _)).element k x hxk.out
      have eb := elB_ok (HD.out.els k x hxk.out)
      have FE := famE_eq hxk.out
      obtain ⟨fa, hfa⟩ : ∃ fa : Nat, x.2.1 = (fa : Int) := ⟨x.2.1.toNat, by omega⟩
      have f5 : fa < 5 := by omega
      have FE : Hid (famE d k = fa) := by show _ = _; rw [FE, hfa, Int.toNat_natCast]
      have SS := hide (szL_succ FE.out f5)
      have sb := szA_bd d k fa
      obtain ⟨W1, hW1⟩ : ∃ W1, Hid (W1 = wr.alloc (.cells #[.string (bs x.1), .int .i64 x.2.1, .int .i64 x.2.2.1, .int .i64 x.2.2.2] 47)) := ⟨_, rfl⟩
      have XW : Hid (Ext wr W1) := by rw [hW1.out]; exact Ext.alloc _ _
      have BW : Hid (Blk W1 wr.heap.size #[.string (bs x.1), .int .i64 x.2.1, .int .i64 x.2.2.1, .int .i64 x.2.2.2] 47) := by rw [hW1.out]; exact Blk.new rfl _ _
      have O2 := hide (OwnI.below OK.out XW.out (Nat.le_refl _))
      have cO := O2.out.cell fa f5
      rw [szL_at d k f5] at cO
      have fO := O2.out.free fa
      have cW := BW.out.cell
      rw [hfa] at cW q1 hW1
      have YS : Hid (Ext W0 (W1.setCell ⟨g, fa, none⟩ (.int .i64 (szA d k fa + 1)))) := Below.setCell (HX.out.trans XW.out) (by simpa using gl) _
      have O6 : Hid (OwnI 3 (W1.setCell ⟨g, fa, none⟩ (.int .i64 (szA d k fa + 1))) g (some ⟨g, 0, none⟩) 5 5 (szL d (k + 1))) := by
        rw [SS.out]
        exact O2.out.set fa _
      rw [hW1.out] at cO fO cW
      generalize bs x.1 = x0 at *
      generalize x.2.2.1 = x2 at *
      generalize x.2.2.2 = x3 at *
      generalize szA d k fa = S at *
      clear hfa eb
      go_wp2
      rw [← hW1.out]
      clear hW1 q0 q1 q2 q3 cO fO cW
      generalize W1.setCell ⟨g, fa, none⟩ (.int .i64 (S + 1)) = w6 at *
      go_roundw
      case rel => exact ⟨k + 1, by omega, by go_num, O6.out, YS.out⟩
      case measure => simp [intOf]; omega
    · have ek : nc = k := by omega
      subst ek
      go_wp2
      go_ret
      exact ⟨_, _, rfl, OwnI.lower OK.out (by omega), X0.out.trans HX.out⟩
end Go.Proofs.YtegoapdbpfhkiaaGreat

/- MostSingles by the program. -/
namespace Go.Proofs.YtegoapdbpfhkiaaGreat
open Go.RowKit Go.Sort
set_option linter.unusedVariables false

def fitE (d : CoD) (f : Nat) : Nat := min (cntF (famE d) f (List.range d.1.length)) (limE d f)
def singF (d : CoD) : Int × Bool := if codeB d then (((min 14 (totF (fitE d)) : Nat) : Int), true) else (0, false)
def mostS (d : CoD) : Nat → Int
  | 0 => 0
  | f + 1 => mostS d f + min (szA d d.1.length f) (d.2.1.getD f 0)
theorem mostS_succ (d : CoD) (f : Nat) : mostS d (f + 1) = mostS d f + min (szA d d.1.length f) (d.2.1.getD f 0) := rfl
theorem mostS_tot {d : CoD} (hd : CodeOk d) : mostS d 5 = (totF (fitE d) : Nat) := by
  have h0 := (limE_eq hd (show 0 < 5 by decide)).1
  have h1 := (limE_eq hd (show 1 < 5 by decide)).1
  have h2 := (limE_eq hd (show 2 < 5 by decide)).1
  have h3 := (limE_eq hd (show 3 < 5 by decide)).1
  have h4 := (limE_eq hd (show 4 < 5 by decide)).1
  unfold totF fitE
  simp only [mostS, szA]
  omega
theorem mostS_bd {d : CoD} (hd : CodeOk d) (f : Nat) (hf : f ≤ 5) : 0 ≤ mostS d f ∧ mostS d f ≤ 9 * f := by
  induction f with
  | zero => exact ⟨Int.le_refl _, Int.le_refl _⟩
  | succ f ih =>
    have := ih (by omega)
    have h1 := (limE_eq hd (show f < 5 by omega)).2
    have h2 := szA_bd d d.1.length f
    rw [mostS_succ]
    omega

set_option maxRecDepth 100000 in
set_option maxHeartbeats 2000000 in
theorem i.MostSingles_law (w : World) (v : Value) (d : CoD) (h : kC.rd w v d) (hok : kC.ok d) :
    Calls Tryz.prog 16 #[v] w fun e w' => e = .returned (.tuple #[.int .i64 (singF d).1, .bool (singF d).2]) ∧ Ext w w' := by
  obtain ⟨Ac, cc, Al, cl, rfl, _, hll⟩ := kC.lr h
  obtain ⟨F, hF⟩ : ∃ F, Hid (singF d = F) := ⟨_, rfl⟩
  rw [hF.out]
  have FS0 := hide (fun (hd : CodeOk d) (wq : World) (xq : Ext w wq) => i.familySizes_m wq _ d (kC.rd_ext h xq) hd)
  have LI := hide hll
  have a1 := hll.1; have a2 := hll.2.1
  obtain ⟨nc, NC⟩ : ∃ z, Hid (d.1.length = z) := ⟨_, rfl⟩
  obtain ⟨nl, NL⟩ : ∃ z, Hid (d.2.1.length = z) := ⟨_, rfl⟩
  obtain ⟨r, RN⟩ : ∃ z, Hid (d.2.2.1 = z) := ⟨_, rfl⟩
  obtain ⟨b, BN⟩ : ∃ z, Hid (d.2.2.2.1 = z) := ⟨_, rfl⟩
  obtain ⟨p, PN⟩ : ∃ z, Hid (d.2.2.2.2.1 = z) := ⟨_, rfl⟩
  obtain ⟨f, FN⟩ : ∃ z, Hid (d.2.2.2.2.2 = z) := ⟨_, rfl⟩
  have MS0 : Hid (∀ f, mostS d (f + 1) = mostS d f + min (szA d nc f) (d.2.1.getD f 0)) := fun f => by rw [mostS_succ, NC.out]
  have SZ0 : Hid (∀ k f, k ≤ nc → 0 ≤ szA d k f ∧ szA d k f ≤ nc) := fun k f hk => by have := szA_bd d k f; omega
  rw [NC.out, NL.out, RN.out, BN.out, PN.out, FN.out] at h FS0 ⊢
  rw [NL.out] at a1
  obtain ⟨W0, hW0⟩ : ∃ W0, Hid (W0 = w.alloc (.cells #[.slice Ac nc cc, .slice Al nl cl, .int .i64 r, .int .i64 b, .int .i64 p, .int .i64 f] 26)) := ⟨_, rfl⟩
  have X0 : Hid (Ext w W0) := by rw [hW0.out]; exact Ext.alloc w _
  have B0 : Hid (Blk W0 w.heap.size #[.slice Ac nc cc, .slice Al nl cl, .int .i64 r, .int .i64 b, .int .i64 p, .int .i64 f] 26) := by rw [hW0.out]; exact Blk.new rfl _ _
  have CQ := hide (i.IsCode_m W0 _ d (kC.rd_ext h X0.out) hok)
  clear h hok hll
  go_enter Tryz.func16, Tryz.ntmps16
  go_wp2_with fail
  rw [← hW0.out]
  clear hW0
  refine CQ.out.mono ?_
  rintro e w1 ⟨rfl, x1⟩
  have X1 := hide (X0.out.trans x1)
  have B1 := hide (B0.out.ext x1)
  clear x1 CQ X0 B0
  cases hc : codeB d
  · have HF : Hid (F = (0, false)) := by show _ = _; rw [← hF.out]; simp [singF, hc]
    clear hc
    go_wp2
    go_ret2
    rw [HF.out]
    exact ⟨rfl, X1.out⟩
  have HC := hide (codeB_ok hc)
  have HF : Hid (F = (((min 14 (totF (fitE d)) : Nat) : Int), true)) := by show _ = _; rw [← hF.out]; simp [singF, hc]
  have FSQ := hide (FS0.out HC.out w1 X1.out)
  have l5 := HC.out.lim
  rw [NL.out] at l5
  subst l5
  have h24 := HC.out.n2
  rw [NC.out] at h24
  clear hc hF FS0
  have cB := B1.out.cell
  go_wp2_with fail
  clear cB
  refine FSQ.out.mono ?_
  rintro e w2 ⟨A2, c2, rfl, o2, x2⟩
  have O2 := hide o2
  have X2 := hide (X1.out.trans x2)
  have B2 := hide (B1.out.ext x2)
  have od1 := o2.capn; have od2 := o2.capm
  obtain ⟨g, rfl, hg1, hg2, _⟩ := OwnI.pos o2 (by omega)
  obtain ⟨bl, ol, rfl, hbl, hcl⟩ := SlI.cells ((LI.out.ext X2.out (Nat.le_refl _)).sl) (by have := HC.out.lim; omega)
  have z2 := X2.out.size
  have CLm := hide hcl
  clear o2 x2 FSQ hcl
  have M0 : Hid (mostS d 0 = 0) := rfl
  go_wp2
  go_loop [4, 13] (fun s i0 => ∃ k : Nat, k ≤ 5 ∧ i0 = .int .i64 k ∧ s = .int .i64 (mostS d k)) (fun _ i0 => 5 - (intOf i0).toNat)
  case atStart => exact ⟨0, Nat.zero_le _, rfl, by rw [M0.out]⟩
  case round =>
    obtain ⟨k, hk, rfl, rfl⟩ := hrel
    have mb := mostS_bd HC.out k hk
    by_cases hlt : k < 5
    · have cK := OwnI.cell O2.out k hlt
      rw [szL_at d nc hlt] at cK
      have cL := CLm.out k (by have := HC.out.lim; omega)
      have lb := (limE_eq HC.out hlt).2
      have sb := SZ0.out nc k (Nat.le_refl _)
      have MS := hide (MS0.out k)
      have cB := B2.out.cell
      generalize szA d nc k = S at *
      generalize d.2.1.getD k 0 = L at *
      generalize mostS d k = M at *
      have i1 : (k : Int) < 5 := by omega
      by_cases hm : L < S
      · have MQ : Hid (mostS d (k + 1) = M + L) := by show _ = _; rw [MS.out]; omega
        have e1 : min S L = L := by omega
        have e2 := hide e1
        clear e1
        go_wp2
        go_round
        case rel => exact ⟨k + 1, by omega, by go_num, by rw [MQ.out]; first | rfl | rw [e2.out]⟩
        case measure => simp [intOf]; omega
      · have MQ : Hid (mostS d (k + 1) = M + S) := by show _ = _; rw [MS.out]; omega
        have e1 : min S L = S := by omega
        have e2 := hide e1
        clear e1
        go_wp2
        go_round
        case rel => exact ⟨k + 1, by omega, by go_num, by rw [MQ.out]; first | rfl | rw [e2.out]⟩
        case measure => simp [intOf]; omega
    · have ek : k = 5 := by omega
      subst ek
      have MT := mostS_tot HC.out
      have TT : Hid (((min 14 (totF (fitE d)) : Nat) : Int) = min (mostS d 5) 14) := by show _ = _; rw [MT]; omega
      clear MT
      generalize mostS d 5 = M at *
      go_wp2
      all_goals
        go_ret2
        rw [HF.out, TT.out]
        exact ⟨by first | (congr 3; omega; done) | (congr 3; done), X2.out⟩
end Go.Proofs.YtegoapdbpfhkiaaGreat

/- The greedy choice of the reference; MostSingles. -/
namespace Go.Proofs.YtegoapdbpfhkiaaGreat
open Go.RowKit Go.Sort
set_option linter.unusedVariables false

set_option maxHeartbeats 1000000 in
theorem hasI_any (A : Option Addr) (n c B : Nat) (zs : List Int) (y : Int) (w : World) (h : SlI w B A n zs) (hn : n ≤ 1048576) :
    Calls Tryz.prog 82 #[.slice A n c, .int .i64 y] w fun e w' => e = .returned (.bool (zs.any (fun z => z == y))) ∧ w = w' := by
  have hl := hide h.len
  obtain ⟨R, hR⟩ : ∃ R, Hid (zs.any (fun z => z == y) = R) := ⟨_, rfl⟩
  rw [hR.out]
  go_enter Tryz.func82, Tryz.ntmps82
  go_wp2
  go_loop [6, 9] (fun _ i => ∃ k : Nat, k ≤ n ∧ i = .int .i64 k ∧ (zs.take k).any (fun z => z == y) = false) (fun _ i => n - (intOf i).toNat)
  case atStart => exact ⟨0, Nat.zero_le _, rfl, rfl⟩
  case round =>
    obtain ⟨k, hk, rfl, hall⟩ := hrel
    have H := hide hall; clear hall
    by_cases hlt : k < n
    · obtain ⟨b, off, rfl, hb, hc⟩ := h.cells (by omega)
      have hck := hc k hlt
      have hx : zs[k]? = some (zs.getD k 0) := by rw [List.getD_eq_getElem?_getD, List.getElem?_eq_getElem (by rw [hl.out]; exact hlt)]; rfl
      have HX := hide hx
      clear hc hx
      generalize zs.getD k 0 = x at *
      by_cases e1 : x = y
      · have b1 : (x == y) = true := by simp [e1]
        have HF : Hid (R = true) := by show _ = _; rw [← hR.out, List.any_eq_true]; exact ⟨x, List.mem_of_getElem? HX.out, b1⟩
        clear e1
        go_wp2
        go_ret
        exact ⟨ret_bool HF.out.symm, rfl⟩
      · have b1 : (x == y) = false := by simp [e1]
        have B1 := hide b1
        clear e1
        go_wp2
        go_round
        case rel =>
          obtain ⟨hk', e⟩ := List.getElem?_eq_some_iff.1 HX.out
          exact ⟨k + 1, by omega, by go_num, by rw [List.take_succ_eq_append_getElem hk', List.any_append, H.out, e]; simpa using B1.out⟩
        case measure => simp [intOf]; omega
    · have HF : Hid (R = false) := by show _ = _; rw [← hR.out]; have h8 := H.out; rwa [List.take_of_length_le (by rw [hl.out]; omega)] at h8
      go_wp2
      go_ret
      exact ⟨ret_bool HF.out.symm, rfl⟩
theorem s.l1Has_ext (A : Option Addr) (n c B : Nat) (zs : List Int) (y : Int) (w : World) (h : SlI w B A n zs) (hn : n ≤ 1048576) :
    Calls Tryz.prog 82 #[.slice A n c, .int .i64 y] w fun e w' => e = .returned (.bool (zs.any (fun z => z == y))) ∧ Ext w w' := (hasI_any A n c B zs y w h hn).mono fun _ _ ⟨he, hw⟩ => ⟨he, hw ▸ Ext.refl w⟩
def intL (l : List Nat) : List Int := l.map (fun (i : Nat) => (i : Int))
theorem intL_len (l : List Nat) : (intL l).length = l.length := by simp [intL]
theorem intL_has (l : List Nat) (k : Nat) : (intL l).any (fun z => z == (k : Int)) = decide (k ∈ l) := by
  rw [Bool.eq_iff_iff, List.any_eq_true, decide_eq_true_eq]
  unfold intL
  constructor
  · rintro ⟨z, hz, h⟩
    obtain ⟨i, hi, rfl⟩ := List.mem_map.1 hz
    have : (i : Int) = k := by simpa using h
    have : i = k := by omega
    exact this ▸ hi
  · intro h
    exact ⟨(k : Int), List.mem_map.2 ⟨k, h, rfl⟩, by simp⟩
theorem Own.keepBlk {e : TypeId} {w w' : World} {lo n c : Nat} {A : Option Addr} {vs : List Value} (h : Own e w lo A n c vs) (hk : ∀ p, A = some p → w'.heap[p.block]? = w.heap[p.block]?) : Own e w' lo A n c vs := by
  refine ⟨h.1, ?_⟩
  rcases h.2 with h | ⟨g, cap, cur, h, h1, h2, r⟩
  · exact .inl h
  · have ha := h
    simp only [Value.slice.injEq] at ha
    exact .inr ⟨g, cap, cur, h, h1, by have h9 := hk _ ha.1; rw [h9]; exact h2, r⟩
/-- The room that the families have left. -/
def rmL (d : CoD) (out : List Nat) : List Int := (List.range 5).map (roomF (famE d) (limE d) out)
theorem rmL_len (d : CoD) (out : List Nat) : (rmL d out).length = 5 := by simp [rmL]
theorem rmL_at (d : CoD) (out : List Nat) {f : Nat} (hf : f < 5) : (rmL d out).getD f 0 = roomF (famE d) (limE d) out f := by
  unfold rmL
  rw [List.getD_eq_getElem?_getD, List.getElem?_map, List.getElem?_range hf]
  rfl
theorem rmL_nil {d : CoD} (hd : CodeOk d) : d.2.1 = rmL d [] := by
  apply List.ext_getElem?
  intro i
  by_cases hi : i < 5
  · have h := (limE_eq hd hi).1
    have hl := hd.lim
    rw [List.getElem?_eq_getElem (by omega)]
    unfold rmL
    rw [List.getElem?_map, List.getElem?_range hi]
    simp only [Option.map_some, roomF, cntF]
    rw [h, List.getD_eq_getElem?_getD, List.getElem?_eq_getElem (by omega)]
    simp
  · rw [List.getElem?_eq_none (by have := hd.lim; omega), List.getElem?_eq_none (by rw [rmL_len]; omega)]
theorem rmL_snoc (d : CoD) (out : List Nat) {i f : Nat} (h : famE d i = f) (hf : f < 5) : rmL d (out ++ [i]) = (rmL d out).set f (roomF (famE d) (limE d) out f - 1) := by
  apply List.ext_getElem?
  intro j
  rw [List.getElem?_set, rmL_len]
  unfold rmL
  rw [List.getElem?_map, List.getElem?_map]
  by_cases hj : j < 5
  · rw [List.getElem?_range hj]
    simp only [Option.map_some, roomF]
    rw [cntF_snoc]
    by_cases hk : f = j
    · subst hk
      rw [if_pos rfl, if_pos hf, if_pos h]
      congr 1
      omega
    · rw [if_neg hk, if_neg (by omega)]
      simp
  · rw [List.getElem?_eq_none (l := List.range 5) (by simp; omega), if_neg (by omega)]
    rfl
def chF (d : CoD) (n : Nat) (q : Nat) (out : List Nat) : List Nat := choosF (famE d) (limE d) (basE d) d.1.length n q out
def pkF (d : CoD) (out : List Nat) (k : Nat) : Int := pickF (famE d) (limE d) (basE d) out k
def chosF (d : CoD) (n : Nat) : List Nat := chF d n n []
theorem pkF_lt (d : CoD) (out : List Nat) (k : Nat) : pkF d out k < k ∧ -1 ≤ pkF d out k := by
  rcases pickF_or (famE d) (limE d) (basE d) out k with h | ⟨i, hi, h, _⟩
  · unfold pkF; omega
  · unfold pkF; omega
theorem pkF_yes {d : CoD} {out : List Nat} {k : Nat} (h : 0 < roomF (famE d) (limE d) out (famE d k) ∧ k ∉ out ∧ (pkF d out k < 0 ∨ basE d (pkF d out k).toNat < basE d k)) : pkF d out (k + 1) = k := by
  unfold pkF at h ⊢
  rw [pickF, if_pos h]
theorem pkF_no {d : CoD} {out : List Nat} {k : Nat} (h : ¬ (0 < roomF (famE d) (limE d) out (famE d k) ∧ k ∉ out ∧ (pkF d out k < 0 ∨ basE d (pkF d out k).toNat < basE d k))) : pkF d out (k + 1) = pkF d out k := by
  unfold pkF at h ⊢
  rw [pickF, if_neg h]
theorem chF_stop {d : CoD} {n q : Nat} {out : List Nat} (h : ¬ out.length < n) : chF d n q out = out := by
  unfold chF
  cases q with
  | zero => rfl
  | succ q => rw [choosF, if_neg h]
theorem chF_none {d : CoD} {n q : Nat} {out : List Nat} (h : pkF d out d.1.length < 0) : chF d n q out = out := by
  unfold chF
  unfold pkF at h
  cases q with
  | zero => rfl
  | succ q =>
    rw [choosF]
    split
    all_goals first | rfl | rw [if_pos h]
theorem chF_next {d : CoD} {n q : Nat} {out : List Nat} (hl : out.length < n) (h : ¬ pkF d out d.1.length < 0) : chF d n (q + 1) out = chF d n q (out ++ [(pkF d out d.1.length).toNat]) := by
  unfold chF
  unfold pkF at h ⊢
  rw [choosF, if_pos hl, if_neg h]

set_option maxRecDepth 100000 in
set_option maxHeartbeats 4000000 in
theorem s.pnChoose_m (w : World) (v : Value) (d : CoD) (n : Nat) (h : kC.rd w v d) (hd : CodeOk d) (hn : n ≤ 14) :
    Calls Tryz.prog 45 #[v, .int .i64 n] w fun e w' => ∃ A' c', e = .returned (.slice A' (chosF d n).length c') ∧ OwnI 3 w' w.heap.size A' (chosF d n).length c' (intL (chosF d n)) ∧ Ext w w' := by
  obtain ⟨Ac, cc, Al, cl, rfl, hle, hll⟩ := kC.lr h
  obtain ⟨F, hF⟩ : ∃ F, Hid (chosF d n = F) := ⟨_, rfl⟩
  rw [hF.out]
  obtain ⟨nc, NC⟩ : ∃ z, Hid (d.1.length = z) := ⟨_, rfl⟩
  have l5 := hd.lim
  have h24 := hd.n2
  obtain ⟨r, RN⟩ : ∃ z, Hid (d.2.2.1 = z) := ⟨_, rfl⟩
  obtain ⟨b, BN⟩ : ∃ z, Hid (d.2.2.2.1 = z) := ⟨_, rfl⟩
  obtain ⟨p, PN⟩ : ∃ z, Hid (d.2.2.2.2.1 = z) := ⟨_, rfl⟩
  obtain ⟨f, FN⟩ : ∃ z, Hid (d.2.2.2.2.2 = z) := ⟨_, rfl⟩
  rw [NC.out, l5, RN.out, BN.out, PN.out, FN.out]
  have HL := hide hle
  have a1 := hle.1; have a2 := hle.2.1
  rw [NC.out] at a1 h24
  have b1 := hll.1; have b2 := hll.2.1
  have SL := hide hll.sl
  rw [l5] at SL b1
  have HC := hide hd
  have RN0 := hide (rmL_nil hd)
  clear h hd hle hll l5
  obtain ⟨W0, hW0⟩ : ∃ W0, Hid (W0 = w.alloc (.cells #[.slice Ac nc cc, .slice Al 5 cl, .int .i64 r, .int .i64 b, .int .i64 p, .int .i64 f] 26)) := ⟨_, rfl⟩
  have X0 : Hid (Ext w W0) := by rw [hW0.out]; exact Ext.alloc w _
  have B0 : Hid (Blk W0 w.heap.size #[.slice Ac nc cc, .slice Al 5 cl, .int .i64 r, .int .i64 b, .int .i64 p, .int .i64 f] 26) := by rw [hW0.out]; exact Blk.new rfl _ _
  have OW := hide (s.l1Own_any Al 5 cl w.heap.size d.2.1 W0 (SL.out.ext X0.out (Nat.le_refl _)) X0.out.size (by omega))
  have c0 := B0.out.cell
  rw [hW0.out] at c0
  have z0 := X0.out.size
  have z1 := B0.out.lt
  go_enter Tryz.func45, Tryz.ntmps45
  go_wp2_with fail
  rw [← hW0.out]
  clear hW0 c0
  refine OW.out.mono ?_
  rintro e w2 ⟨A6, c6, rfl, o6, x2⟩
  rw [RN0.out] at o6
  obtain ⟨g6, rfl, hg1, hg2, _⟩ := OwnI.pos o6 (by omega)
  have O6 : Hid (OwnI 3 w2 W0.heap.size (some ⟨g6, 0, none⟩) 5 c6 (rmL d [])) := o6
  have X2 := hide (X0.out.trans x2)
  have B2 := hide (B0.out.ext x2)
  have N5 : Hid (OwnI 3 w2 w2.heap.size none 0 0 (intL [])) := OwnI.nil
  have K0 : Hid (ChOk (famE d) (limE d) nc n []) := ⟨List.nodup_nil, by simp, fun f => by simp [cntF], by simp⟩
  have C0 : Hid (chF d n (n - 0) [] = F) := hF.out
  have od1 := o6.capn; have od2 := o6.capm
  have Y2 := hide (Ext.refl w2)
  have XW0 := hide x2
  clear o6 x2 OW B0 RN0 hF
  go_wp2
  go_loopw [5] (fun o wr => ∃ (out : List Nat) (m : Nat) (A5 : Option Addr) (c5 : Nat), out.length = m ∧ m ≤ n ∧ o = .slice A5 m c5 ∧ OwnI 3 wr w2.heap.size A5 m c5 (intL out) ∧ OwnI 3 wr W0.heap.size (some ⟨g6, 0, none⟩) 5 c6 (rmL d out) ∧ ChOk (famE d) (limE d) nc n out ∧ chF d n (n - m) out = F ∧ Blk wr w.heap.size #[.slice Ac nc cc, .slice Al 5 cl, .int .i64 r, .int .i64 b, .int .i64 p, .int .i64 f] 26 ∧ Ext W0 wr ∧ w2.heap.size ≤ wr.heap.size) (fun o _ => n - (match o with | .slice _ m _ => m | _ => 0))
  case atStart => exact ⟨[], 0, none, 0, rfl, Nat.zero_le _, rfl, N5.out, O6.out, K0.out, C0.out, B2.out, XW0.out, Nat.le_refl _⟩
  case round =>
    obtain ⟨out, m, A5, c5, hm, hmn, rfl, ho5, ho6, hch, hcf, hbb, hx, hsz⟩ := hrel
    clear N5 O6 K0 C0 B2 XW0
    have HM := hide hm
    have O5 := hide ho5
    have O6 := hide ho6
    have CH := hide hch
    have CF := hide hcf
    have BB := hide hbb
    have HX := hide hx
    have oc1 := ho5.capn; have oc2 := ho5.capm
    clear hm ho5 ho6 hch hcf hbb hx
    obtain ⟨wo, rfl⟩ : ∃ wo : World, wo = wr := ⟨_, rfl⟩
    by_cases hmn2 : m < n
    · have cB := BB.out.cell
      have P0 : Hid (pkF d out 0 = -1) := rfl
      have XR := hide (Ext.refl wo)
      go_wp2
      clear cB
      go_loopw [7, 20] (fun q i0 wr => ∃ (k : Nat), k ≤ nc ∧ i0 = .int .i64 k ∧ q = .int .i64 (pkF d out k) ∧ Ext wo wr) (fun _ i0 _ => nc - (intOf i0).toNat)
      case atStart => exact ⟨0, Nat.zero_le _, rfl, by rw [P0.out], XR.out⟩
      case round =>
        obtain ⟨k, hk, rfl, rfl, hx⟩ := hrel
        clear XR
        have HXi := hide hx
        clear hx
        by_cases hlt : k < nc
        · obtain ⟨x, hxk⟩ : ∃ x, Hid (d.1[k]? = some x) := get_ex d.1 k (by rw [NC.out]; exact hlt)
          have XO := hide (X0.out.trans (HX.out.trans HXi.out))
          obtain ⟨bb, off, rfl, hbb, q0, q1, q2, q3, _⟩ := (HL.out.ext XO.out (Nat.le_refl _)).element k x hxk.out
          have eb := elB_ok (HC.out.els k x hxk.out)
          obtain ⟨fa, hfa⟩ : ∃ fa : Nat, x.2.1 = (fa : Int) := ⟨x.2.1.toNat, by omega⟩
          have f5 : fa < 5 := by omega
          have FE : Hid (famE d k = fa) := by show _ = _; rw [famE_eq hxk.out, hfa, Int.toNat_natCast]
          have BE := hide (basE_eq hxk.out)
          obtain ⟨W1, hW1⟩ : ∃ W1, Hid (W1 = wr.alloc (.cells #[.string (bs x.1), .int .i64 x.2.1, .int .i64 x.2.2.1, .int .i64 x.2.2.2] 47)) := ⟨_, rfl⟩
          have XW : Hid (Ext wr W1) := by rw [hW1.out]; exact Ext.alloc _ _
          have BW : Hid (Blk W1 wr.heap.size #[.string (bs x.1), .int .i64 x.2.1, .int .i64 x.2.2.1, .int .i64 x.2.2.2] 47) := by rw [hW1.out]; exact Blk.new rfl _ _
          have O5b := hide (OwnI.sl (OwnI.below O5.out (HXi.out.trans XW.out) (Nat.le_refl _)))
          have O6b := hide (OwnI.below O6.out (HXi.out.trans XW.out) (Nat.le_refl _))
          have BBb := hide (BB.out.ext (HXi.out.trans XW.out))
          have R6 := OwnI.cell O6b.out fa f5
          rw [rmL_at d out f5] at R6
          have LH := hide (fun dd os => ext_regrown (s.l1Has_ext A5 m c5 W1.heap.size (intL out) k (grow (redrawn W1 dd) os) (SlI.ext O5b.out (ext_re W1 dd os) (Nat.le_refl _)) (by omega)))
          rw [intL_has] at LH
          have pb := pkF_lt d out k
          have PY := hide (pkF_yes (d := d) (out := out) (k := k))
          have PN2 := hide (pkF_no (d := d) (out := out) (k := k))
          rw [FE.out, BE.out] at PY PN2
          rw [hfa] at BW q1 hW1
          have YX := hide (fun dd os => HXi.out.trans (XW.out.trans (ext_re W1 dd os)))
          have c6_ := fun dd os => cell_regrown R6 dd os
          have cb_ := fun dd os => (BBb.out.ext (ext_re W1 dd os)).cell
          have cw_ := fun dd os => (BW.out.ext (ext_re W1 dd os)).cell
          generalize bs x.1 = x0 at *
          generalize x.2.2.1 = x2 at *
          generalize x.2.2.2 = Z at *
          generalize roomF (famE d) (limE d) out fa = R at *
          have YP : Hid (∀ P : Nat, pkF d out k = P → ∃ y : Int, basE d P = y ∧ ∀ dd os, (grow (redrawn W1 dd) os).cell? ⟨bb, off + P * 4 + 3, none⟩ = some (.int .i64 y)) := fun P hP => by
            obtain ⟨y, hyk⟩ : ∃ y, Hid (d.1[P]? = some y) := get_ex d.1 P (by rw [NC.out]; omega)
            obtain ⟨bb', off', he, hbb', _, _, _, t3, _⟩ := (HL.out.ext (XO.out.trans XW.out) (Nat.le_refl _)).element P y hyk.out
            simp only [Option.some.injEq, Addr.mk.injEq, and_true] at he
            obtain ⟨rfl, rfl⟩ := he
            exact ⟨_, basE_eq hyk.out, fun dd os => cell_regrown t3 dd os⟩
          generalize hP : pkF d out k = P at *
          have HPk := hide hP
          clear hP eb hfa R6
          have i0k : (k : Int) < nc := by omega
          have f5i : (fa : Int) < 5 := by omega
          go_wp2
          rw [← hW1.out]
          clear hW1 q0 q1 q2 q3
          by_cases h1 : 0 < R
          · by_cases h2 : k ∈ out
            · have NX := hide (PN2.out (fun h => h.2.1 h2))
              rw [show decide (k ∈ out) = true by simp [h2]] at LH
              clear h2 YP PY PN2
              refine wp_region_quiet_below (by kernel_rfl) (by kernel_rfl) ?_
              repeat (go_big_quiet_step ((go_at_call 82; exact LH.out _ _)))
              refine wpQuiet_nil ?_
              intro _ hw'
              obtain ⟨⟨dq, osq⟩, hw''⟩ := hw'
              subst hw''
              have Y9 := hide (YX.out dq osq)
              clear c6_ cb_ cw_
              generalize grow (redrawn W1 dq) osq = w9 at *
              go_wp2
              go_roundw
              case rel => exact ⟨k + 1, by omega, by go_num, by rw [NX.out], Y9.out⟩
              case measure => simp [intOf]; omega
            · rw [show decide (k ∈ out) = false by simp [h2]] at LH
              by_cases h3 : P < 0
              · have NX := hide (PY.out ⟨h1, h2, .inl h3⟩)
                clear h2 YP PY PN2
                refine wp_region_quiet_below (by kernel_rfl) (by kernel_rfl) ?_
                repeat (go_big_quiet_step ((go_at_call 82; exact LH.out _ _)))
                refine wpQuiet_nil ?_
                intro _ hw'
                obtain ⟨⟨dq, osq⟩, hw''⟩ := hw'
                subst hw''
                have Y9 := hide (YX.out dq osq)
                clear c6_ cb_ cw_
                generalize grow (redrawn W1 dq) osq = w9 at *
                go_wp2
                go_roundw
                case rel => exact ⟨k + 1, by omega, by go_num, by rw [NX.out], Y9.out⟩
                case measure => simp [intOf]; omega
              · obtain ⟨Pn, hPn⟩ : ∃ Pn : Nat, P = Pn := ⟨P.toNat, by omega⟩
                subst hPn
                obtain ⟨y, hy, cy_⟩ := YP.out Pn rfl
                rw [Int.toNat_natCast, hy] at PY PN2
                have ip : (Pn : Int) < nc := by omega
                by_cases h4 : y < Z
                · have NX := hide (PY.out ⟨h1, h2, .inr h4⟩)
                  clear h2 YP PY PN2 hy
                  refine wp_region_quiet_below (by kernel_rfl) (by kernel_rfl) ?_
                  repeat (go_big_quiet_step ((go_at_call 82; exact LH.out _ _)))
                  refine wpQuiet_nil ?_
                  intro _ hw'
                  obtain ⟨⟨dq, osq⟩, hw''⟩ := hw'
                  subst hw''
                  have Y9 := hide (YX.out dq osq)
                  clear c6_ cb_ cw_ cy_
                  generalize grow (redrawn W1 dq) osq = w9 at *
                  go_wp2
                  go_roundw
                  case rel => exact ⟨k + 1, by omega, by go_num, by rw [NX.out], Y9.out⟩
                  case measure => simp [intOf]; omega
                · have NX := hide (PN2.out (fun h => by rcases h.2.2 with h | h; exact h3 h; exact h4 h))
                  clear h2 YP PY PN2 hy
                  refine wp_region_quiet_below (by kernel_rfl) (by kernel_rfl) ?_
                  repeat (go_big_quiet_step ((go_at_call 82; exact LH.out _ _)))
                  refine wpQuiet_nil ?_
                  intro _ hw'
                  obtain ⟨⟨dq, osq⟩, hw''⟩ := hw'
                  subst hw''
                  have Y9 := hide (YX.out dq osq)
                  clear c6_ cb_ cw_ cy_
                  generalize grow (redrawn W1 dq) osq = w9 at *
                  go_wp2
                  go_roundw
                  case rel => exact ⟨k + 1, by omega, by go_num, by rw [NX.out], Y9.out⟩
                  case measure => simp [intOf]; omega
          · have NX := hide (PN2.out (fun h => h1 h.1))
            clear YP PY PN2
            refine wp_region_quiet_below (by kernel_rfl) (by kernel_rfl) ?_
            repeat (go_big_quiet_step ((go_at_call 82; exact LH.out _ _)))
            refine wpQuiet_nil ?_
            intro _ hw'
            obtain ⟨⟨dq, osq⟩, hw''⟩ := hw'
            subst hw''
            have Y9 := hide (YX.out dq osq)
            clear c6_ cb_ cw_
            generalize grow (redrawn W1 dq) osq = w9 at *
            go_wp2
            go_roundw
            case rel => exact ⟨k + 1, by omega, by go_num, by rw [NX.out], Y9.out⟩
            case measure => simp [intOf]; omega
        · have ek : nc = k := by omega
          subst ek
          have pb := pkF_lt d out nc
          have PK := hide (pickF_or (famE d) (limE d) (basE d) out nc)
          by_cases hneg : pkF d out nc < 0
          · have CN := hide (chF_none (n := n) (q := n - m) (by rw [NC.out]; exact hneg))
            generalize pkF d out nc = P at *
            go_wp2
            go_ret
            have e9 : out = F := by rw [← CN.out]; exact CF.out
            have hm := HM.out
            subst e9
            subst hm
            exact ⟨A5, c5, rfl, OwnI.lower (OwnI.below O5.out HXi.out (Nat.le_refl _)) (by omega), X0.out.trans (HX.out.trans HXi.out)⟩
          · have CN := hide (chF_next (d := d) (n := n) (q := n - (m + 1)) (out := out) (by rw [HM.out]; exact hmn2) (by rw [NC.out]; exact hneg))
            rw [show n - (m + 1) + 1 = n - m by omega, NC.out] at CN
            have hpk := PK.out
            rcases hpk with hpk | ⟨P, hP1, hP2, hP3, hP4⟩
            · exact absurd (show pkF d out nc < 0 by unfold pkF; omega) hneg
            have hPk : pkF d out nc = P := hP2
            rw [hPk] at CN
            rw [hPk]
            rw [Int.toNat_natCast] at CN
            have CHN := hide (CH.out.next hP1 hP3 hP4 (by rw [HM.out]; exact hmn2))
            obtain ⟨x, hxk⟩ : ∃ x, Hid (d.1[P]? = some x) := get_ex d.1 P (by rw [NC.out]; exact hP1)
            have eb := elB_ok (HC.out.els P x hxk.out)
            obtain ⟨fa, hfa⟩ : ∃ fa : Nat, x.2.1 = (fa : Int) := ⟨x.2.1.toNat, by omega⟩
            have f5 : fa < 5 := by omega
            have FE : Hid (famE d P = fa) := by show _ = _; rw [famE_eq hxk.out, hfa, Int.toNat_natCast]
            have RS := hide (rmL_snoc d out FE.out f5)
            have XO := hide (X0.out.trans (HX.out.trans HXi.out))
            obtain ⟨be, off, rfl, hbe, -, q1, -⟩ := (HL.out.ext XO.out (Nat.le_refl _)).element P x hxk.out
            rw [hfa] at q1
            have O5w := hide (OwnI.below O5.out HXi.out (Nat.le_refl _))
            have O6w := hide (OwnI.below O6.out HXi.out (Nat.le_refl _))
            have BBw := hide (BB.out.ext HXi.out)
            have zi := HXi.out.size
            have rb : -9 ≤ roomF (famE d) (limE d) out fa ∧ roomF (famE d) (limE d) out fa ≤ 9 := by
              have h1 := CHN.out.lim fa
              have h2 := (limE_eq HC.out f5)
              rw [FE.out] at hP3
              unfold roomF at hP3 ⊢
              omega
            have hmL : Hid ((out ++ [P]).length = m + 1) := by show _ = _; rw [List.length_append, HM.out]; rfl
            have HIL : Hid ((intL out).map (Value.int .i64) ++ [Value.int .i64 (P : Int)] = (intL (out ++ [P])).map (Value.int .i64)) := by show _ = _; simp [intL]
            obtain ⟨L, hL⟩ : ∃ L, Hid (intL out = L) := ⟨_, rfl⟩
            rw [hL.out] at O5w HIL
            have cB := BBw.out.cell
            generalize hR : roomF (famE d) (limE d) out fa = R at *
            have HR := hide hR
            clear hR eb hfa hP2 hP3 hP4 hPk PK hneg pb
            go_wp2_with (at_builtin; refine wpList_append_sl rfl (.tmp 56) (.tmp 58) rfl elem_int rfl rfl (lo := w2.heap.size) (Own.alloc O5w.out (.cells #[.int .i64 P] 3)) (Sl.one wr (.int .i64 P) 3) (one_int _) ?c1 ?c2 ?c3 ?_)
            case c1 => omega
            case c2 => omega
            case c3 => simp; omega
            intro A9 c9 w9 hap
            clear cB
            have hA5 : ∀ p, A5 = some p → w2.heap.size ≤ p.block := Own.fromLo O5w.out
            have XE := hide (hap.ext ((HX.out.trans HXi.out).trans (Ext.alloc wr _)) (fun p hp => by have := hA5 p hp; have := (HX.out.trans HXi.out).size; omega))
            have O6a : Hid (OwnI 3 w9 W0.heap.size (some ⟨g6, 0, none⟩) 5 c6 (rmL d out)) := Own.keepBlk (Own.alloc O6w.out (.cells #[.int .i64 P] 3)) (fun p hp => by
              injection hp with hp
              subst hp
              refine hap.grew.block g6 (by simp; omega) ?_
              intro hh
              cases hA : A5 with
              | none => rw [hA] at hh; cases hh
              | some q => rw [hA] at hh; simp at hh; have := hA5 q hA; omega)
            have BBa := hide ((BBw.out.alloc (.cells #[.int .i64 P] 3)).tchF (fp := (A5.map (·.block)).toList) (TchF.of_grown hap.grew (fun p hp => by rw [hp]; simp)) (fun hm => by obtain ⟨p, hp, he⟩ := mem_of_opt hm; have := hA5 p hp; have := BBw.out.lt; omega))
            have q1_ : w9.cell? ⟨be, off + P * 4 + 1, none⟩ = some (.int .i64 fa) := (XE.out.cell (by show be < _; omega)).trans (((HX.out.trans HXi.out).cell (by show be < _; omega)).symm.trans q1)
            have O9 : Hid (OwnI 3 w9 w2.heap.size A9 (m + 1) c9 (intL (out ++ [P]))) := own_conv hap.own (Nat.le_refl _) rfl HIL.out
            have hA9 : Hid (∀ p, A9 = some p → w2.heap.size ≤ p.block) := Own.fromLo O9.out
            have z9 := hap.grew.size
            have z9 : w2.heap.size ≤ w9.heap.size := by have h9 := z9; simp at h9; omega
            clear hap
            have cB := BBa.out.cell
            have c6_ := OwnI.cell O6a.out fa f5
            rw [rmL_at d out f5, HR.out] at c6_
            have f6_ := OwnI.free O6a.out fa
            have O6n : Hid (OwnI 3 (w9.setCell ⟨g6, fa, none⟩ (.int .i64 (R - 1))) W0.heap.size (some ⟨g6, 0, none⟩) 5 c6 (rmL d (out ++ [P]))) := by
              rw [RS.out]
              exact OwnI.set O6a.out fa _
            have O5n : Hid (OwnI 3 (w9.setCell ⟨g6, fa, none⟩ (.int .i64 (R - 1))) w2.heap.size A9 (m + 1) c9 (intL (out ++ [P]))) := Own.far O9.out (fun a ha => by have := hA9.out a ha; show a.block ≠ g6; omega) _
            have BBn : Hid (Blk (w9.setCell ⟨g6, fa, none⟩ (.int .i64 (R - 1))) w.heap.size #[.slice (some ⟨be, off, none⟩) nc cc, .slice Al 5 cl, .int .i64 r, .int .i64 b, .int .i64 p, .int .i64 f] 26) := BBa.out.far (by show w.heap.size ≠ g6; omega) _
            have XEn : Hid (Ext W0 (w9.setCell ⟨g6, fa, none⟩ (.int .i64 (R - 1)))) := Below.setCell XE.out (by show _ ≤ g6; omega) _
            have hzn : w2.heap.size ≤ (w9.setCell ⟨g6, fa, none⟩ (.int .i64 (R - 1))).heap.size := by simp [World.setCell]; omega
            go_wp2
            clear cB c6_ f6_ q1_ q1
            generalize w9.setCell ⟨g6, fa, none⟩ (.int .i64 (R - 1)) = w10 at *
            go_roundw
            case rel => exact ⟨out ++ [P], m + 1, A9, c9, hmL.out, by omega, rfl, O5n.out, O6n.out, CHN.out, by rw [← CN.out]; exact CF.out, BBn.out, XEn.out, hzn⟩
            case measure => simp; omega
    · have CN := hide (chF_stop (d := d) (q := n - m) (by rw [HM.out]; exact hmn2))
      have e9 : out = F := by rw [← CN.out]; exact CF.out
      have hm := HM.out
      subst e9
      subst hm
      go_wp2
      go_ret
      exact ⟨A5, c5, rfl, OwnI.lower O5.out (by omega), X0.out.trans HX.out⟩

theorem chos_len {d : CoD} (hd : CodeOk d) (n : Nat) : (chosF d n).length = min n (totF (fitE d)) := by
  unfold chosF chF fitE
  exact choosF_len (fun i _ => famE_lt hd i) n [] ⟨List.nodup_nil, by simp, fun f => by simp [cntF], by simp⟩ (by simp)
set_option maxRecDepth 100000 in
set_option maxHeartbeats 2000000 in
theorem s.MostSingles_law (w : World) (v : Value) (d : CoD) (h : kC.rd w v d) (hok : kC.ok d) :
    Calls Tryz.prog 17 #[v] w fun e w' => e = .returned (.tuple #[.int .i64 (singF d).1, .bool (singF d).2]) ∧ Ext w w' := by
  have PC0 := hide (fun (hd : CodeOk d) (wq : World) (xq : Ext w wq) => s.pnChoose_m wq _ d 14 (kC.rd_ext h xq) hd (by decide))
  obtain ⟨F, hF⟩ : ∃ F, Hid (singF d = F) := ⟨_, rfl⟩
  rw [hF.out]
  obtain ⟨Ac, nc, cc, Al, nl, cl, r, b, p, f, rfl⟩ := kC.shape h
  obtain ⟨W0, hW0⟩ : ∃ W0, Hid (W0 = w.alloc (.cells #[.slice Ac nc cc, .slice Al nl cl, .int .i64 r, .int .i64 b, .int .i64 p, .int .i64 f] 26)) := ⟨_, rfl⟩
  have X0 : Hid (Ext w W0) := by rw [hW0.out]; exact Ext.alloc w _
  have B0 : Hid (Blk W0 w.heap.size #[.slice Ac nc cc, .slice Al nl cl, .int .i64 r, .int .i64 b, .int .i64 p, .int .i64 f] 26) := by rw [hW0.out]; exact Blk.new rfl _ _
  have CQ := hide (s.cdGood_m W0 _ d (kC.rd_ext h X0.out) hok)
  clear h hok
  go_enter Tryz.func17, Tryz.ntmps17
  go_wp2_with fail
  rw [← hW0.out]
  clear hW0
  refine CQ.out.mono ?_
  rintro e w1 ⟨rfl, x1⟩
  have X1 := hide (X0.out.trans x1)
  have B1 := hide (B0.out.ext x1)
  clear x1 CQ X0 B0
  cases hc : codeB d
  · have HF : Hid (F = (0, false)) := by show _ = _; rw [← hF.out]; simp [singF, hc]
    clear hc
    go_wp2
    go_ret2
    rw [HF.out]
    exact ⟨rfl, X1.out⟩
  have HC := hide (codeB_ok hc)
  have HF : Hid (F = (((chosF d 14).length : Int), true)) := by show _ = _; rw [← hF.out, chos_len HC.out]; simp [singF, hc]
  have PQ := hide (PC0.out HC.out w1 X1.out)
  clear hc hF PC0
  have cB := B1.out.cell
  go_wp2_with fail
  clear cB
  refine PQ.out.mono ?_
  rintro e w2 ⟨A2, c2, rfl, -, x2⟩
  have X2 := hide (X1.out.trans x2)
  clear x2 PQ
  go_wp2
  go_ret2
  rw [HF.out]
  exact ⟨rfl, X2.out⟩
end Go.Proofs.YtegoapdbpfhkiaaGreat

/- Choices out of families counted: the plain law. -/
namespace Go.Proofs.YtegoapdbpfhkiaaGreat
open Go.RowKit Go.Sort
set_option linter.unusedVariables false

/-- In how many ways k of n things can be chosen. -/
def bin : Nat → Nat → Nat
  | _, 0 => 1
  | 0, _ + 1 => 0
  | n + 1, k + 1 => bin n k + bin n (k + 1)
theorem bin_zero (n : Nat) : bin n 0 = 1 := by cases n <;> rfl
theorem bin_nil (k : Nat) : bin 0 (k + 1) = 0 := rfl
theorem bin_succ (n k : Nat) : bin (n + 1) (k + 1) = bin n k + bin n (k + 1) := rfl
theorem bin_gt : ∀ (n k : Nat), n < k → bin n k = 0
  | n, 0, h => absurd h (by omega)
  | 0, k + 1, _ => rfl
  | n + 1, k + 1, h => by rw [bin_succ, bin_gt n k (by omega), bin_gt n (k + 1) (by omega)]
theorem bin_le : ∀ (n k : Nat), bin n k ≤ 2 ^ n
  | n, 0 => by rw [bin_zero]; exact Nat.one_le_two_pow
  | 0, k + 1 => by rw [bin_nil]; exact Nat.zero_le _
  | n + 1, k + 1 => by have := bin_le n k; have := bin_le n (k + 1); rw [bin_succ, Nat.pow_succ]; omega
theorem bin_step : ∀ (n k m : Nat), n = k + m → bin n (k + 1) * (k + 1) = bin n k * m
  | 0, k, m, h => by
    have hk : k = 0 := by omega
    have hm : m = 0 := by omega
    subst hk hm
    rfl
  | n + 1, 0, m, h => by
    have hm : m = n + 1 := by omega
    subst hm
    have h1 := bin_step n 0 n (by omega)
    rw [bin_zero] at h1 ⊢
    rw [bin_succ, bin_zero]
    simp at h1 ⊢
    omega
  | n + 1, k + 1, m, h => by
    have h1 := bin_step n k m (by omega)
    rw [bin_succ n (k + 1), bin_succ n k]
    cases m with
    | zero =>
      have e : n = k := by omega
      subst e
      rw [bin_gt n (n + 1) (by omega), bin_gt n (n + 1 + 1) (by omega)]
      simp
    | succ m =>
      have h2 := bin_step n (k + 1) m (by omega)
      rw [Nat.add_mul, Nat.add_mul, Nat.mul_succ (bin n (k + 1)) (k + 1), h1, h2, Nat.mul_succ (bin n (k + 1)) m]
      omega
/-- The quotient that the program takes is whole. -/
theorem bin_quo {n k : Nat} (h : k < n) : (bin n k : Int) * ((n : Int) - k) / ((k : Int) + 1) = (bin n (k + 1) : Nat) := by
  have h1 := bin_step n k (n - k) (by omega)
  have h2 : (bin n k : Int) * ((n : Int) - k) = (bin n (k + 1) : Nat) * ((k : Int) + 1) := by
    have h3 : ((bin n (k + 1) * (k + 1) : Nat) : Int) = ((bin n k * (n - k) : Nat) : Int) := by rw [h1]
    rw [Int.natCast_mul, Int.natCast_mul] at h3
    rw [show ((n - k : Nat) : Int) = (n : Int) - k by omega] at h3
    rw [← h3]
    rfl
  rw [h2, Int.mul_ediv_cancel _ (by omega)]
def sumTo (g : Nat → Nat) : Nat → Nat
  | 0 => 0
  | m + 1 => sumTo g m + g m
theorem sumTo_le {g : Nat → Nat} {B : Nat} (m : Nat) (h : ∀ i, i < m → g i ≤ B) : sumTo g m ≤ m * B := by
  induction m with
  | zero => simp [sumTo]
  | succ m ih =>
    have h1 := ih (fun i hi => h i (by omega))
    have h2 := h m (by omega)
    rw [sumTo, Nat.add_mul]
    omega
theorem sumTo_mono {g g' : Nat → Nat} (m : Nat) (h : ∀ i, i < m → g i ≤ g' i) : sumTo g m ≤ sumTo g' m := by
  induction m with
  | zero => exact Nat.le_refl _
  | succ m ih =>
    have h1 := ih (fun i hi => h i (by omega))
    have h2 := h m (by omega)
    rw [sumTo, sumTo]
    omega
theorem sumTo_congr {g g' : Nat → Nat} (m : Nat) (h : ∀ i, i < m → g i = g' i) : sumTo g m = sumTo g' m :=
  Nat.le_antisymm (sumTo_mono m fun i hi => Nat.le_of_eq (h i hi)) (sumTo_mono m fun i hi => Nat.le_of_eq (h i hi).symm)
theorem sumTo_add (g g' : Nat → Nat) (m : Nat) : sumTo (fun i => g i + g' i) m = sumTo g m + sumTo g' m := by
  induction m with
  | zero => rfl
  | succ m ih => rw [sumTo, sumTo, sumTo, ih]; omega
theorem sumTo_mul (g : Nat → Nat) (c m : Nat) : sumTo (fun i => c * g i) m = c * sumTo g m := by
  induction m with
  | zero => simp [sumTo]
  | succ m ih => rw [sumTo, sumTo, ih, Nat.mul_add]
theorem sumTo_first (g : Nat → Nat) (m : Nat) : sumTo g (m + 1) = g 0 + sumTo (fun i => g (i + 1)) m := by
  induction m with
  | zero => simp [sumTo]
  | succ m ih => rw [sumTo, ih, sumTo]; omega
theorem sumTo_cut (g : Nat → Nat) (m m' : Nat) (hm : m ≤ m') (h : ∀ i, m ≤ i → i < m' → g i = 0) : sumTo g m' = sumTo g m := by
  induction m' with
  | zero =>
    have : m = 0 := by omega
    subst this; rfl
  | succ m' ih =>
    by_cases e : m = m' + 1
    · rw [e]
    · rw [sumTo, ih (by omega) (fun i h1 h2 => h i h1 (by omega)), h m' (by omega) (by omega)]
      rfl
theorem sumTo_rev (g : Nat → Nat) (m : Nat) : sumTo g (m + 1) = sumTo (fun i => g (m - i)) (m + 1) := by
  induction m generalizing g with
  | zero => rfl
  | succ m ih =>
    rw [sumTo_first (fun i => g (m + 1 - i)) (m + 1), sumTo]
    have h1 : sumTo (fun i => g (m + 1 - (i + 1))) (m + 1) = sumTo g (m + 1) := by
      rw [ih g]
      exact sumTo_congr _ (fun i hi => by rw [show m + 1 - (i + 1) = m - i by omega])
    rw [h1]
    simp
    omega
theorem sumTo_bin (s m : Nat) : sumTo (bin s) m ≤ 2 ^ s := by
  induction s generalizing m with
  | zero =>
    cases m with
    | zero => simp [sumTo]
    | succ m =>
      rw [sumTo_first]
      have : sumTo (fun i => bin 0 (i + 1)) m = sumTo (fun _ => 0) m := sumTo_congr _ (fun i _ => rfl)
      rw [this]
      have h2 := sumTo_le (g := fun _ => 0) (B := 0) m (fun _ _ => Nat.le_refl _)
      rw [bin_zero]
      simp at h2 ⊢
      omega
  | succ s ih =>
    cases m with
    | zero => simp [sumTo]
    | succ m =>
      rw [sumTo_first]
      have : sumTo (fun i => bin (s + 1) (i + 1)) m = sumTo (fun i => bin s i + bin s (i + 1)) m := sumTo_congr _ (fun i _ => rfl)
      rw [this, sumTo_add]
      have h1 := ih m
      have h2 := ih (m + 1)
      rw [sumTo_first] at h2
      rw [bin_zero] at h2 ⊢
      rw [Nat.pow_succ]
      omega
/-- The choices of x out of the families so far and one more: s things, l of them at most. -/
def conv (ways : Nat → Nat) (s l x : Nat) : Nat := sumTo (fun j => ways (x - j) * bin s j) (min x l + 1)
def wayN (sz lm : Nat → Nat) : Nat → Nat → Nat
  | 0, x => if x = 0 then 1 else 0
  | f + 1, x => conv (wayN sz lm f) (sz f) (lm f) x
theorem conv_le {ways : Nat → Nat} {B : Nat} (s l x m : Nat) (h : ∀ i, ways i ≤ B) : sumTo (fun j => ways (x - j) * bin s j) m ≤ B * 2 ^ s := by
  have h1 : sumTo (fun j => ways (x - j) * bin s j) m ≤ sumTo (fun j => B * bin s j) m := sumTo_mono m (fun i _ => Nat.mul_le_mul_right _ (h _))
  rw [sumTo_mul] at h1
  exact Nat.le_trans h1 (Nat.mul_le_mul_left _ (sumTo_bin s m))
theorem wayN_le (sz lm : Nat → Nat) (f x : Nat) : wayN sz lm f x ≤ 2 ^ sumTo sz f := by
  induction f generalizing x with
  | zero => unfold wayN; split <;> simp [sumTo]
  | succ f ih =>
    rw [sumTo, Nat.pow_add]
    exact conv_le _ (lm f) _ _ ih
/-- What one round of the program adds to the choices of x. -/
def addW (ways : Nat → Nat) (s l n h x : Nat) : Nat := if h ≤ x ∧ x - h ≤ min (min s l) (n - h) then ways h * bin s (x - h) else 0
theorem conv_eq (ways : Nat → Nat) (s l n x : Nat) (hx : x ≤ n) : sumTo (fun h => addW ways s l n h x) (n + 1) = conv ways s l x := by
  rw [sumTo_cut (fun h => addW ways s l n h x) (x + 1) (n + 1) (by omega) (fun i h1 h2 => by unfold addW; rw [if_neg (by omega)])]
  rw [sumTo_rev]
  unfold conv
  rw [sumTo_cut (fun j => addW ways s l n (x - j) x) (min x l + 1) (x + 1) (by omega) (fun i h1 h2 => by unfold addW; rw [if_neg (by omega)])]
  refine sumTo_congr _ (fun j hj => ?_)
  unfold addW
  rw [show x - (x - j) = j by omega]
  by_cases hs : j ≤ s
  · rw [if_pos (by omega)]
  · rw [if_neg (by omega), bin_gt s j (by omega)]
    rfl
theorem addW_le {ways : Nat → Nat} {B : Nat} (s l n h x : Nat) (hw : ∀ i, ways i ≤ B) : addW ways s l n h x ≤ B * 2 ^ s := by
  unfold addW
  split
  · exact Nat.mul_le_mul (hw _) (bin_le _ _)
  · exact Nat.zero_le _
/-- How many elements the family f has. -/
def szE (d : CoD) (f : Nat) : Nat := cntF (famE d) f (List.range d.1.length)
def cntW (d : CoD) (f x : Nat) : Nat := wayN (szE d) (limE d) f x
def countF (d : CoD) (n : Int) : Int × Bool := if codeB d && inB 1 14 n then (((cntW d 5 n.toNat : Nat) : Int), true) else (0, false)
theorem szE_sum {d : CoD} (hd : CodeOk d) : sumTo (szE d) 5 ≤ 24 := by
  have h := len_totF (famE d) (List.range d.1.length) (fun i _ => famE_lt hd i)
  rw [List.length_range] at h
  have h2 := hd.n2
  simp only [totF] at h
  simp only [sumTo, szE]
  omega
theorem szE_le {d : CoD} (hd : CodeOk d) {f : Nat} (hf : f < 5) : sumTo (szE d) f + szE d f ≤ 24 := by
  have h := szE_sum hd
  simp only [sumTo] at h
  have : f = 0 ∨ f = 1 ∨ f = 2 ∨ f = 3 ∨ f = 4 := by omega
  rcases this with rfl | rfl | rfl | rfl | rfl <;> simp only [sumTo] <;> omega
theorem cntW_le {d : CoD} (hd : CodeOk d) {f : Nat} (hf : f ≤ 5) (x : Nat) : cntW d f x ≤ 16777216 := by
  have h1 := wayN_le (szE d) (limE d) f x
  have h2 : sumTo (szE d) f ≤ 24 := by
    by_cases h5 : f = 5
    · rw [h5]; exact szE_sum hd
    · have := szE_le hd (show f < 5 by omega); omega
  have h3 : 2 ^ sumTo (szE d) f ≤ 2 ^ 24 := Nat.pow_le_pow_right (by decide) h2
  exact Nat.le_trans h1 h3
theorem bin24 {s : Nat} (h : s ≤ 24) (k : Nat) : bin s k ≤ 16777216 := Nat.le_trans (bin_le s k) (Nat.pow_le_pow_right (by decide) h)
theorem cntW_succ (d : CoD) (f x : Nat) : cntW d (f + 1) x = conv (cntW d f) (szE d f) (limE d f) x := rfl
/-- A row of n + 1 numbers. -/
def rowN (g : Nat → Nat) (n : Nat) : List Int := (List.range (n + 1)).map (fun x => ((g x : Nat) : Int))
theorem rowN_len (g : Nat → Nat) (n : Nat) : (rowN g n).length = n + 1 := by simp [rowN]
theorem rowN_at (g : Nat → Nat) {n x : Nat} (h : x ≤ n) : (rowN g n).getD x 0 = g x := by
  unfold rowN
  rw [List.getD_eq_getElem?_getD, List.getElem?_map, List.getElem?_range (by omega)]
  rfl
theorem rowN_congr {g g' : Nat → Nat} {n : Nat} (h : ∀ x, x ≤ n → g x = g' x) : rowN g n = rowN g' n := by
  unfold rowN
  refine List.map_congr_left fun x hx => ?_
  rw [List.mem_range] at hx
  rw [h x (by omega)]
theorem rowN_set {g g' : Nat → Nat} {n k : Nat} (hk : k ≤ n) (h : ∀ x, x ≤ n → x ≠ k → g' x = g x) : rowN g' n = (rowN g n).set k (g' k) := by
  apply List.ext_getElem?
  intro i
  rw [List.getElem?_set, rowN_len]
  unfold rowN
  rw [List.getElem?_map, List.getElem?_map]
  by_cases hi : i < n + 1
  · rw [List.getElem?_range hi]
    simp only [Option.map_some]
    by_cases hki : k = i
    · subst hki
      rw [if_pos rfl, if_pos hi]
    · rw [if_neg hki, h i (by omega) (Ne.symm hki)]
  · rw [List.getElem?_eq_none (l := List.range (n + 1)) (by simp; omega), if_neg (by omega)]
    rfl
theorem rowN_zero (n : Nat) : rowN (fun _ => 0) n = List.replicate (n + 1) 0 := by
  unfold rowN
  rw [List.map_const', List.length_range]
  rfl
end Go.Proofs.YtegoapdbpfhkiaaGreat

/- CountSingles by the program. -/
namespace Go.Proofs.YtegoapdbpfhkiaaGreat
open Go.RowKit Go.Sort
set_option linter.unusedVariables false

set_option maxHeartbeats 1000000 in
theorem i.choose_any (n k : Nat) (w : World) (hn : n ≤ 24) (hk : k ≤ n) :
    Calls Tryz.prog 37 #[.int .i64 n, .int .i64 k] w fun e w' => e = .returned (.int .i64 (bin n k : Nat)) ∧ w = w' := by
  have B0 : Hid (bin n 0 = 1) := bin_zero n
  go_enter Tryz.func37, Tryz.ntmps37
  go_wp2
  go_loop [5, 8] (fun o i0 => ∃ i : Nat, i ≤ k ∧ i0 = .int .i64 i ∧ o = .int .i64 (bin n i : Nat)) (fun _ i0 => k - (intOf i0).toNat)
  case atStart => exact ⟨0, Nat.zero_le _, rfl, by rw [B0.out]; rfl⟩
  case round =>
    obtain ⟨i, hi, rfl, rfl⟩ := hrel
    by_cases hlt : i < k
    · have hb := bin24 hn i
      have HQ := hide (bin_quo (n := n) (k := i) (by omega))
      have b0 : (0 : Int) ≤ (bin n i : Int) * ((n : Int) - i) := Int.mul_nonneg (by omega) (by omega)
      have b1 : (bin n i : Int) * ((n : Int) - i) ≤ (bin n i : Int) * 24 := Int.mul_le_mul_of_nonneg_left (by omega) (by omega)
      have b2 : (bin n i : Int) * ((n : Int) - i) ≤ 1000000000 := by omega
      clear b1
      generalize bin n i = Q at *
      go_wp2
      go_round
      case rel => exact ⟨i + 1, by omega, by go_num, by rw [HQ.out]⟩
      case measure => simp [intOf]; omega
    · have ek : k = i := by omega
      subst ek
      go_wp2
      go_ret
      exact ⟨rfl, rfl⟩

/-- The row of the next choices while the program works: the rounds before h done, of the round h the first k terms. -/
def accW (ways : Nat → Nat) (s l n h k x : Nat) : Nat := sumTo (fun h' => addW ways s l n h' x) h + (if h ≤ x ∧ x - h < k then addW ways s l n h x else 0)
theorem accW_start (ways : Nat → Nat) (s l n h x : Nat) : accW ways s l n h 0 x = sumTo (fun h' => addW ways s l n h' x) h := by
  unfold accW
  rw [if_neg (by omega), Nat.add_zero]
theorem accW_end {ways : Nat → Nat} {s l n h k : Nat} (hk : min (min s l) (n - h) < k) (x : Nat) : accW ways s l n h k x = sumTo (fun h' => addW ways s l n h' x) (h + 1) := by
  unfold accW
  rw [sumTo]
  congr 1
  by_cases hx : h ≤ x ∧ x - h < k
  · rw [if_pos hx]
  · rw [if_neg hx]
    unfold addW
    rw [if_neg (by omega)]
theorem accW_step {ways : Nat → Nat} {s l n h k : Nat} (hk : k ≤ min (min s l) (n - h)) : accW ways s l n h (k + 1) (h + k) = accW ways s l n h k (h + k) + ways h * bin s k := by
  unfold accW
  rw [if_pos (by omega), if_neg (by omega), Nat.add_zero]
  congr 1
  unfold addW
  rw [show h + k - h = k by omega, if_pos (by omega)]
theorem accW_other {ways : Nat → Nat} {s l n h k x : Nat} (hx : x ≠ h + k) : accW ways s l n h (k + 1) x = accW ways s l n h k x := by
  unfold accW
  congr 1
  by_cases h1 : h ≤ x ∧ x - h < k
  · rw [if_pos h1, if_pos (by omega)]
  · rw [if_neg h1, if_neg (by omega)]
theorem accW_bd {ways : Nat → Nat} {s l n h k x : Nat} (hw : ∀ i, ways i ≤ 16777216) (hs : s ≤ 24) (hh : h ≤ 14) : accW ways s l n h k x ≤ 4222124650659840 := by
  have h1 : ∀ h', addW ways s l n h' x ≤ 281474976710656 := fun h' => Nat.le_trans (addW_le s l n h' x hw) (Nat.le_trans (Nat.mul_le_mul_left _ (Nat.pow_le_pow_right (by decide) hs)) (by decide))
  have h2 := sumTo_le (g := fun h' => addW ways s l n h' x) h (fun i _ => h1 i)
  have h3 := h1 h
  have h4 : h * 281474976710656 ≤ 14 * 281474976710656 := Nat.mul_le_mul_right _ hh
  unfold accW
  split <;> omega
theorem accW_all (d : CoD) (f n x : Nat) (hx : x ≤ n) : sumTo (fun h' => addW (cntW d f) (szE d f) (limE d f) n h' x) (n + 1) = cntW d (f + 1) x := by
  rw [conv_eq _ _ _ _ _ hx, cntW_succ]
theorem szA_szE (d : CoD) (f : Nat) : szA d d.1.length f = (szE d f : Nat) := rfl
theorem OwnI.made1 (w : World) {lo : Nat} (n : Nat) (hn : n ≤ 1048576) (hlo : lo ≤ w.heap.size) : OwnI 3 (w.alloc (.cells ((madeCells #[.int .i64 0] (n + 1)).setIfInBounds 0 (.int .i64 1)) 3)) lo (some ⟨w.heap.size, 0, none⟩) (n + 1) (n + 1) (rowN (fun x => if x = 0 then 1 else 0) n) := by
  have h := World.ownsRow_lit (e := 3) (size := 1) (base := lo) w ((madeCells #[.int .i64 0] (n + 1)).setIfInBounds 0 (.int .i64 1)) (n + 1) hlo (by unfold maxLen; omega) (by simp [madeCells])
  rw [Array.toList_setIfInBounds, made_zeroR] at h
  have e : rowN (fun x => if x = 0 then 1 else 0) n = (List.replicate (n + 1) (0 : Int)).set 0 1 := by
    rw [rowN_set (g := fun _ => 0) (Nat.zero_le n) (fun x _ hx => by simp [hx]), rowN_zero]
    simp
  show Own _ _ _ _ _ _ _
  rw [e, List.map_set]
  exact h
theorem min3 (X Y Z : Int) : (if Z < (if Y < X then Y else X) then Z else (if Y < X then Y else X)) = min (min X Y) Z := by
  split <;> split <;> omega

set_option maxRecDepth 100000 in
set_option maxHeartbeats 4000000 in
theorem i.CountSingles_law (w : World) (v : Value) (d : CoD) (n0 : Int) (h : kC.rd w v d) (hok : kC.ok d) (_hn : InR n0) :
    Calls Tryz.prog 11 #[v, .int .i64 n0] w fun e w' => e = .returned (.tuple #[.int .i64 (countF d n0).1, .bool (countF d n0).2]) ∧ Ext w w' := by
  obtain ⟨Ac, cc, Al, cl, rfl, _, hll⟩ := kC.lr h
  obtain ⟨F, hF⟩ : ∃ F, Hid (countF d n0 = F) := ⟨_, rfl⟩
  rw [hF.out]
  have FS0 := hide (fun (hd : CodeOk d) (wq : World) (xq : Ext w wq) => i.familySizes_m wq _ d (kC.rd_ext h xq) hd)
  have LI := hide hll
  have a1 := hll.1; have a2 := hll.2.1
  obtain ⟨nc, NC⟩ : ∃ z, Hid (d.1.length = z) := ⟨_, rfl⟩
  obtain ⟨nl, NL⟩ : ∃ z, Hid (d.2.1.length = z) := ⟨_, rfl⟩
  obtain ⟨r, RN⟩ : ∃ z, Hid (d.2.2.1 = z) := ⟨_, rfl⟩
  obtain ⟨b, BN⟩ : ∃ z, Hid (d.2.2.2.1 = z) := ⟨_, rfl⟩
  obtain ⟨p, PN⟩ : ∃ z, Hid (d.2.2.2.2.1 = z) := ⟨_, rfl⟩
  obtain ⟨f, FN⟩ : ∃ z, Hid (d.2.2.2.2.2 = z) := ⟨_, rfl⟩
  have SZE : Hid (∀ f, f < 5 → (szL d nc).getD f 0 = (szE d f : Nat)) := fun f hf => by rw [szL_at d nc hf, ← NC.out]; rfl
  rw [NC.out, NL.out, RN.out, BN.out, PN.out, FN.out] at h FS0 ⊢
  rw [NL.out] at a1
  obtain ⟨W0, hW0⟩ : ∃ W0, Hid (W0 = w.alloc (.cells #[.slice Ac nc cc, .slice Al nl cl, .int .i64 r, .int .i64 b, .int .i64 p, .int .i64 f] 26)) := ⟨_, rfl⟩
  have X0 : Hid (Ext w W0) := by rw [hW0.out]; exact Ext.alloc w _
  have B0 : Hid (Blk W0 w.heap.size #[.slice Ac nc cc, .slice Al nl cl, .int .i64 r, .int .i64 b, .int .i64 p, .int .i64 f] 26) := by rw [hW0.out]; exact Blk.new rfl _ _
  have CQ := hide (i.IsCode_m W0 _ d (kC.rd_ext h X0.out) hok)
  clear h hok hll
  go_enter Tryz.func11, Tryz.ntmps11
  go_wp2_with fail
  rw [← hW0.out]
  clear hW0
  refine CQ.out.mono ?_
  rintro e w1 ⟨rfl, x1⟩
  have X1 := hide (X0.out.trans x1)
  have B1 := hide (B0.out.ext x1)
  clear x1 CQ X0 B0
  cases hc : codeB d
  · have HF : Hid (F = (0, false)) := by show _ = _; rw [← hF.out]; simp [countF, hc]
    clear hc
    go_wp2
    go_ret2
    rw [HF.out]
    exact ⟨rfl, X1.out⟩
  have HC := hide (codeB_ok hc)
  cases hi : inB 1 14 n0
  · have HF : Hid (F = (0, false)) := by show _ = _; rw [← hF.out]; simp [countF, hi]
    have HI := hide hi
    clear hc hi
    go_wp2_with (go_at_call 30; refine (i.isCount_any _ _).mono ?_; rintro e w' ⟨rfl, rfl⟩; rw [HI.out])
    go_ret2
    rw [HF.out]
    exact ⟨rfl, X1.out⟩
  have HF : Hid (F = (((cntW d 5 n0.toNat : Nat) : Int), true)) := by show _ = _; rw [← hF.out]; simp [countF, hc, hi]
  have HI := hide hi
  have hb := inB_ok hi
  obtain ⟨n, hn⟩ : ∃ n : Nat, n0 = n := ⟨n0.toNat, by omega⟩
  subst hn
  rw [Int.toNat_natCast] at HF
  have n1 : 1 ≤ n := by omega
  have n14 : n ≤ 14 := by omega
  have l5 := HC.out.lim
  rw [NL.out] at l5
  subst l5
  have h24 := HC.out.n2
  rw [NC.out] at h24
  clear hc hi hb hF
  have WB := hide (fun f (hf : f ≤ 5) => cntW_le HC.out hf)
  have SB := hide (fun f (hf : f < 5) => show szE d f ≤ 24 by have := szE_le HC.out hf; omega)
  have MKR := hide (fun w => run_make_row' (P := Tryz.prog) 24 3 (.int .i64 0) 8 Tryz.underlying24 (by kernel_rfl) rfl .i64 .i64 (n + 1) (by omega) (by omega) w)
  have nn : ((n : Int) + 1) = ((n + 1 : Nat) : Int) := by omega
  rw [← nn] at MKR
  clear nn
  have mkr := MKR.out
  have cm0 : Hid ((madeCells #[Value.int .i64 0] (n + 1))[0]? = some (.int .i64 0)) := by
    show _ = _
    have h := congrArg (·[0]?) (made_zeroR (n + 1))
    simpa using h
  obtain ⟨W1, hW1⟩ : ∃ W1, Hid (W1 = w1.alloc (.cells ((madeCells #[.int .i64 0] (n + 1)).setIfInBounds 0 (.int .i64 1)) 3)) := ⟨_, rfl⟩
  have XA : Hid (Ext w1 W1) := by rw [hW1.out]; exact Ext.alloc _ _
  have OA : Hid (OwnI 3 W1 w1.heap.size (some ⟨w1.heap.size, 0, none⟩) (n + 1) (n + 1) (rowN (cntW d 0) n)) := by rw [hW1.out]; exact OwnI.made1 w1 n (by omega) (Nat.le_refl _)
  have BA := hide (B1.out.ext XA.out)
  have XB := hide (X1.out.trans XA.out)
  have FSQ := hide (FS0.out HC.out W1 XB.out)
  have cB := BA.out.cell
  rw [hW1.out] at cB
  clear FS0
  have cm := cm0.out
  go_wp2_with (go_at_call 30; refine (i.isCount_any _ _).mono ?_; rintro e w' ⟨rfl, rfl⟩; rw [HI.out])
  rw [← hW1.out]
  clear hW1 cB cm
  refine FSQ.out.mono ?_
  rintro e w2 ⟨A7, c7, rfl, o7, x2⟩
  obtain ⟨g7, rfl, hg1, hg2, _⟩ := OwnI.pos o7 (by omega)
  have O7 := hide o7
  have oc1 := o7.capn; have oc2 := o7.capm
  have za := XA.out.size
  have z1 := X1.out.size
  have OB : Hid (OwnI 3 w2 w1.heap.size (some ⟨w1.heap.size, 0, none⟩) (n + 1) (n + 1) (rowN (cntW d 0) n)) := OwnI.below OA.out x2 (Nat.le_refl _)
  have GL : Hid (w1.heap.size < W1.heap.size) := by
    rcases OwnI.form OA.out with ⟨h, _⟩ | ⟨g', h, _, h2, _⟩
    · cases h
    · injection h with h; injection h with h; subst h; exact h2
  have X2 := hide (XA.out.trans x2)
  have B2 := hide (BA.out.ext x2)
  have zl := B1.out.lt
  clear o7 x2 FSQ OA XB BA mkr
  obtain ⟨bl, ol, rfl, hbl, hcl⟩ := SlI.cells LI.out.sl (by have := HC.out.lim; omega)
  have CLm : Hid (∀ (wq : World), Ext w wq → ∀ f, f < 5 → wq.cell? ⟨bl, ol + f, none⟩ = some (.int .i64 (d.2.1.getD f 0))) := fun wq xq f hf => (xq.cell hbl).trans (hcl f (by have := HC.out.lim; omega))
  clear hcl
  go_wp2
  go_loopw [6, 29] (fun o i0 wr => ∃ (f g : Nat), f ≤ 5 ∧ i0 = .int .i64 f ∧ o = .slice (some ⟨g, 0, none⟩) (n + 1) (n + 1) ∧ OwnI 3 wr w1.heap.size (some ⟨g, 0, none⟩) (n + 1) (n + 1) (rowN (cntW d f) n) ∧ g ≠ g7 ∧ OwnI 3 wr W1.heap.size (some ⟨g7, 0, none⟩) 5 c7 (szL d nc) ∧ Ext w1 wr) (fun _ i0 _ => 5 - (intOf i0).toNat)
  case atStart => exact ⟨0, w1.heap.size, Nat.zero_le _, rfl, rfl, OB.out, by have := GL.out; omega, O7.out, X2.out⟩
  case round =>
    obtain ⟨ff, g, hf5, rfl, rfl, hw, hne, h7, hx⟩ := hrel
    have OW := hide hw
    clear OB O7 X2
    have O7 := hide h7
    have HX := hide hx
    clear hw h7 hx
    obtain ⟨wo, rfl⟩ : ∃ wo : World, wo = wr := ⟨_, rfl⟩
    have BO := hide (B1.out.ext HX.out)
    by_cases hlt : ff < 5
    · have c7_ := O7.out.cell ff hlt
      rw [SZE.out ff hlt] at c7_
      have WBf := hide (WB.out ff (by omega))
      have SBf := SB.out ff hlt
      have lb := limE_eq HC.out hlt
      have lb2 := lb.2.1; have lb3 := lb.2.2
      obtain ⟨lm, hlm⟩ : ∃ lm, Hid (limE d ff = lm) := ⟨_, rfl⟩
      have lb1 := hide lb.1
      rw [hlm.out] at lb1
      rw [← lb1.out] at lb2 lb3
      clear lb
      obtain ⟨s, hs⟩ : ∃ s, Hid (szE d ff = s) := ⟨_, rfl⟩
      rw [hs.out] at c7_ SBf
      obtain ⟨ways, hwy⟩ : ∃ ways, Hid (cntW d ff = ways) := ⟨_, rfl⟩
      have AA := hide (accW_all d ff n)
      rw [hwy.out, hs.out, hlm.out] at AA
      rw [hwy.out] at OW WBf
      obtain ⟨w3, hw3⟩ : ∃ w3, Hid (w3 = wo.alloc (.cells (madeCells #[.int .i64 0] (n + 1)) 3)) := ⟨_, rfl⟩
      have X3 : Hid (Ext wo w3) := by rw [hw3.out]; exact Ext.alloc _ _
      have zo := HX.out.size
      have g3 : Hid (wo.heap.size < w3.heap.size) := by rw [hw3.out]; show _ < _; simp
      have ON : Hid (OwnI 3 w3 w1.heap.size (some ⟨wo.heap.size, 0, none⟩) (n + 1) (n + 1) (rowN (accW ways s lm n 0 0) n)) := by
        rw [show rowN (accW ways s lm n 0 0) n = rowN (fun _ => 0) n from rowN_congr (fun x _ => by rw [accW_start]; rfl), rowN_zero, hw3.out]
        exact OwnI.made wo (n + 1) (by omega) zo
      have gw : g < wo.heap.size := by
        rcases OwnI.form OW.out with ⟨h, _⟩ | ⟨g', h, _, h2, _⟩
        · cases h
        · injection h with h; injection h with h; subst h; exact h2
      have g7w : g7 < wo.heap.size := by
        rcases OwnI.form O7.out with ⟨h, _⟩ | ⟨g', h, _, h2, _⟩
        · cases h
        · injection h with h; injection h with h; subst h; exact h2
      have OW3 := hide (OwnI.below OW.out X3.out (Nat.le_refl _))
      have O73 := hide (OwnI.below O7.out X3.out (Nat.le_refl _))
      have HX3 := hide (HX.out.trans X3.out)
      obtain ⟨G, hG⟩ : ∃ G, Hid (G = wo.heap.size) := ⟨_, rfl⟩
      have mkr := MKR.out wo
      rw [← hw3.out, ← hG.out] at mkr
      rw [← hG.out] at ON g3 gw g7w
      have Gg : w1.heap.size ≤ G := by rw [hG.out]; exact zo
      have i1 : (ff : Int) < 5 := by omega
      go_wp2
      clear mkr c7_
      go_loopw [39] (fun i0 wr => ∃ (hv : Nat), hv ≤ n + 1 ∧ i0 = .int .i64 hv ∧ OwnI 3 wr w1.heap.size (some ⟨G, 0, none⟩) (n + 1) (n + 1) (rowN (accW ways s lm n hv 0) n) ∧ OwnI 3 wr w1.heap.size (some ⟨g, 0, none⟩) (n + 1) (n + 1) (rowN ways n) ∧ OwnI 3 wr W1.heap.size (some ⟨g7, 0, none⟩) 5 c7 (szL d nc) ∧ Ext w1 wr) (fun i0 _ => n + 1 - (intOf i0).toNat)
      case atStart => exact ⟨0, Nat.zero_le _, rfl, ON.out, OW3.out, O73.out, HX3.out⟩
      case round =>
        obtain ⟨hv, hh, rfl, hn', hw', h7', hx'⟩ := hrel
        clear ON OW3 O73 HX3
        have ON := hide hn'
        have OW3 := hide hw'
        have O73 := hide h7'
        have HX3 := hide hx'
        clear hn' hw' h7' hx'
        obtain ⟨w4, rfl⟩ : ∃ w4 : World, w4 = wr := ⟨_, rfl⟩
        by_cases hlh : hv < n + 1
        · have cw := OW3.out.cell hv hlh
          rw [rowN_at ways (by omega)] at cw
          have wb := WBf.out hv
          obtain ⟨Wh, HW⟩ : ∃ Wh, Hid (ways hv = Wh) := ⟨_, rfl⟩
          rw [HW.out] at cw wb
          have ih : (hv : Int) < (n : Int) + 1 := by omega
          go_wp2
          clear cw
          go_loopw [12] (fun i0 wr => ∃ (k : Nat), k ≤ min (min s lm) (n - hv) + 1 ∧ i0 = .int .i64 k ∧ OwnI 3 wr w1.heap.size (some ⟨G, 0, none⟩) (n + 1) (n + 1) (rowN (accW ways s lm n hv k) n) ∧ OwnI 3 wr w1.heap.size (some ⟨g, 0, none⟩) (n + 1) (n + 1) (rowN ways n) ∧ OwnI 3 wr W1.heap.size (some ⟨g7, 0, none⟩) 5 c7 (szL d nc) ∧ Ext w1 wr) (fun i0 _ => n + 2 - (intOf i0).toNat)
          case atStart => exact ⟨0, Nat.zero_le _, rfl, ON.out, OW3.out, O73.out, HX3.out⟩
          case round =>
            obtain ⟨k, hk, rfl, hn', hw', h7', hx'⟩ := hrel
            clear ON OW3 O73 HX3
            have ON := hide hn'
            have OW3 := hide hw'
            have O73 := hide h7'
            have HX3 := hide hx'
            clear hn' hw' h7' hx'
            have cB := (B1.out.ext HX3.out).cell
            have cL := CLm.out wr (X1.out.trans HX3.out) ff hlt
            rw [← lb1.out] at cL
            obtain ⟨M, hM⟩ : ∃ M : Nat, min (min s lm) (n - hv) = M := ⟨_, rfl⟩
            have m3 : (if (n : Int) - hv < (if lm < s then (lm : Int) else s) then (n : Int) - hv else (if lm < s then (lm : Int) else s)) = (M : Int) := by split <;> split <;> omega
            have HM := hide hM
            have mb : M ≤ n - hv := by omega
            have mb2 : M ≤ s := by omega
            clear hM
            rw [HM.out] at hk
            by_cases hlk : k ≤ M
            · have lk : (k : Int) ≤ M := by omega
              have AS := hide (accW_step (ways := ways) (s := s) (l := lm) (n := n) (h := hv) (k := k) (by rw [HM.out]; exact hlk))
              have ab := accW_bd (k := k) (x := hv + k) WBf.out SBf (l := lm) (n := n) (h := hv) (by omega)
              have cN := ON.out.cell (hv + k) (by omega)
              rw [rowN_at _ (by omega)] at cN
              have fN := ON.out.free (hv + k)
              have bb := bin24 SBf k
              have RS : Hid (rowN (accW ways s lm n hv (k + 1)) n = (rowN (accW ways s lm n hv k) n).set (hv + k) ((accW ways s lm n hv k (hv + k) + ways hv * bin s k : Nat) : Int)) := by
                show _ = _
                rw [rowN_set (g := accW ways s lm n hv k) (show hv + k ≤ n by omega) (fun x _ hx => accW_other hx), AS.out]
              generalize accW ways s lm n hv k (hv + k) = Q at *
              generalize hb : bin s k = Bk at *
              have HB := hide hb
              clear hb
              rw [HW.out] at AS RS
              have p0 : (0 : Int) ≤ (Wh : Int) * (Bk : Int) := Int.mul_nonneg (by omega) (by omega)
              have p1 : (Wh : Int) * (Bk : Int) ≤ (Wh : Int) * 16777216 := Int.mul_le_mul_of_nonneg_left (by omega) (by omega)
              have p2 : (Wh : Int) * (Bk : Int) ≤ 281474976710656 := by omega
              have RC : Hid (((Q + Wh * Bk : Nat) : Int) = (Q : Int) + (Wh : Int) * (Bk : Int)) := by show _ = _; rw [Int.natCast_add, Int.natCast_mul]
              rw [RC.out] at RS
              have e1 : (hv : Int) + k ≤ n := by omega
              have e0 : 0 ≤ (hv : Int) + k := by omega
              have e2 : (hv : Int) + k < (n : Int) + 1 := by omega
              have e3 : ((hv : Int) + k).toNat = hv + k := by omega
              have kw1 : IntKind.i64.wrap ((hv : Int) + k) = (hv : Int) + k := IntWalk.i64_in _ (by omega)
              have kw2 : IntKind.i64.wrap ((Wh : Int) * (Bk : Int)) = (Wh : Int) * (Bk : Int) := IntWalk.i64_in _ (by omega)
              have kw3 : IntKind.i64.wrap ((Q : Int) + (Wh : Int) * (Bk : Int)) = (Q : Int) + (Wh : Int) * (Bk : Int) := IntWalk.i64_in _ (by omega)
              have CH := hide (fun w => HB.out ▸ i.choose_any s k w SBf (by omega))
              clear p1
              go_wp2
              clear m3 cB cL
              go_region_law
                (first | (go_simp; go_at_call 37; refine (CH.out _).mono ?_; rintro e w5 ⟨rfl, rfl⟩))
              all_goals
                have gne : g ≠ G := by omega
                have g7ne : g7 ≠ G := by omega
                have O5 : Hid (OwnI 3 (wr.setCell ⟨G, hv + k, none⟩ (.int .i64 ((Q : Int) + (Wh : Int) * (Bk : Int)))).drew w1.heap.size (some ⟨G, 0, none⟩) (n + 1) (n + 1) (rowN (accW ways s lm n hv (k + 1)) n)) := by
                  rw [RS.out]
                  exact Own.drew (OwnI.set ON.out (hv + k) _)
                have OW5 : Hid (OwnI 3 (wr.setCell ⟨G, hv + k, none⟩ (.int .i64 ((Q : Int) + (Wh : Int) * (Bk : Int)))).drew w1.heap.size (some ⟨g, 0, none⟩) (n + 1) (n + 1) (rowN ways n)) := Own.drew (Own.far OW3.out (fun a ha => by injection ha with ha; subst ha; exact gne) _)
                have O75 : Hid (OwnI 3 (wr.setCell ⟨G, hv + k, none⟩ (.int .i64 ((Q : Int) + (Wh : Int) * (Bk : Int)))).drew W1.heap.size (some ⟨g7, 0, none⟩) 5 c7 (szL d nc)) := Own.drew (Own.far O73.out (fun a ha => by injection ha with ha; subst ha; exact g7ne) _)
                have X5 : Hid (Ext w1 (wr.setCell ⟨G, hv + k, none⟩ (.int .i64 ((Q : Int) + (Wh : Int) * (Bk : Int)))).drew) := Ext.trans (Below.setCell HX3.out (by show _ ≤ G; exact Gg) _) (Ext.drew _)
                clear kw1 kw2 kw3 cN fN p0 p2
                generalize (wr.setCell ⟨G, hv + k, none⟩ (.int .i64 ((Q : Int) + (Wh : Int) * (Bk : Int)))).drew = w6 at *
                go_wp2
                go_roundw
                case rel => exact ⟨k + 1, by rw [HM.out]; omega, by go_num, O5.out, OW5.out, O75.out, X5.out⟩
                case measure => simp [intOf]; omega
            · have lk : (M : Int) < k := by omega
              have AE : Hid (rowN (accW ways s lm n hv k) n = rowN (accW ways s lm n (hv + 1) 0) n) := by
                show _ = _
                exact rowN_congr (fun x _ => by rw [accW_start, accW_end (by rw [HM.out]; omega)])
              rw [AE.out] at ON
              go_wp2
              go_roundw
              case rel => exact ⟨hv + 1, by omega, by go_num, ON.out, OW3.out, O73.out, HX3.out⟩
              case measure => simp [intOf]; omega
        · have AE : Hid (rowN (accW ways s lm n hv 0) n = rowN (cntW d (ff + 1)) n) := by
            show _ = _
            have eh : hv = n + 1 := by omega
            subst eh
            exact rowN_congr (fun x hx => by rw [accW_start, AA.out x hx])
          rw [AE.out] at ON
          go_wp2
          go_roundw
          case rel => exact ⟨ff + 1, G, by omega, by go_num, rfl, ON.out, by omega, O73.out, HX3.out⟩
          case measure => simp [intOf]; omega
    · have ek : ff = 5 := by omega
      subst ek
      have cN := OW.out.cell n (by omega)
      rw [rowN_at _ (Nat.le_refl _)] at cN
      go_wp2
      go_ret2
      rw [HF.out]
      exact ⟨rfl, X1.out.trans HX.out⟩
end Go.Proofs.YtegoapdbpfhkiaaGreat

/- CountSingles by the reference. -/
namespace Go.Proofs.YtegoapdbpfhkiaaGreat
open Go.RowKit Go.Sort
set_option linter.unusedVariables false

theorem s.l1Least_any (a b : Nat) (w : World) : Calls Tryz.prog 39 #[.int .i64 a, .int .i64 b] w fun e w' => e = .returned (.int .i64 (min a b : Nat)) ∧ w = w' := by
  by_cases h : a < b
  · have h1 : (a : Int) < b := by omega
    have H : Hid (min a b = a) := by show _ = _; omega
    rw [H.out]
    go_enter Tryz.func39, Tryz.ntmps39
    go_wp2
    go_ret
    exact ⟨rfl, rfl⟩
  · have h1 : ¬ (a : Int) < b := by omega
    have H : Hid (min a b = b) := by show _ = _; omega
    rw [H.out]
    go_enter Tryz.func39, Tryz.ntmps39
    go_wp2
    go_ret
    exact ⟨rfl, rfl⟩

def famC (d : CoD) (f i : Nat) : Nat := cntF (famE d) f (List.range i)
theorem famC_succ (d : CoD) (f i : Nat) : famC d f (i + 1) = famC d f i + (if famE d i = f then 1 else 0) := by
  unfold famC
  rw [List.range_succ, cntF_snoc]
theorem famC_le (d : CoD) (f i : Nat) : famC d f i ≤ i := by
  unfold famC cntF
  have := List.length_filter_le (fun i => famE d i == f) (List.range i)
  rwa [List.length_range] at this
/-- The row of one family while an element is taken in: from behind. -/
def stepB (c k x : Nat) : Nat := if k < x then bin (c + 1) x else bin c x
theorem stepB_start {c n x : Nat} (h : x ≤ n) : stepB c n x = bin c x := by unfold stepB; rw [if_neg (by omega)]
theorem stepB_end (c x : Nat) : stepB c 0 x = bin (c + 1) x := by
  unfold stepB
  split
  · rfl
  · have : x = 0 := by omega
    subst this
    rw [bin_zero, bin_zero]
theorem stepB_other {c k x : Nat} (h : x ≠ k + 1) : stepB c k x = stepB c (k + 1) x := by
  unfold stepB
  by_cases h1 : k + 1 < x
  · rw [if_pos (by omega), if_pos h1]
  · rw [if_neg (by omega), if_neg h1]
theorem stepB_at (c k : Nat) : stepB c k (k + 1) = stepB c (k + 1) (k + 1) + stepB c (k + 1) k := by
  unfold stepB
  rw [if_pos (by omega), if_neg (by omega), if_neg (by omega), bin_succ]
  omega
theorem stepB_le {c : Nat} (h : c < 24) (k x : Nat) : stepB c k x ≤ 16777216 := by
  unfold stepB
  split
  · exact bin24 (by omega) _
  · exact bin24 (by omega) _
/-- The next row while the reference works. -/
def nextP (g : Nat → Nat) (p : Nat) (k x : Nat) : Nat := if x < k then g x else if x = k then p else 0

set_option maxRecDepth 100000 in
set_option maxHeartbeats 4000000 in
theorem s.CountSingles_law (w : World) (v : Value) (d : CoD) (n0 : Int) (h : kC.rd w v d) (hok : kC.ok d) (_hn : InR n0) :
    Calls Tryz.prog 12 #[v, .int .i64 n0] w fun e w' => e = .returned (.tuple #[.int .i64 (countF d n0).1, .bool (countF d n0).2]) ∧ Ext w w' := by
  obtain ⟨Ac, cc, Al, cl, rfl, hle, hll⟩ := kC.lr h
  obtain ⟨F, hF⟩ : ∃ F, Hid (countF d n0 = F) := ⟨_, rfl⟩
  rw [hF.out]
  have LI := hide hll
  have HL := hide hle
  have a1 := hll.1; have a2 := hll.2.1
  have a3 := hle.1; have a4 := hle.2.1
  obtain ⟨nc, NC⟩ : ∃ z, Hid (d.1.length = z) := ⟨_, rfl⟩
  obtain ⟨nl, NL⟩ : ∃ z, Hid (d.2.1.length = z) := ⟨_, rfl⟩
  obtain ⟨r, RN⟩ : ∃ z, Hid (d.2.2.1 = z) := ⟨_, rfl⟩
  obtain ⟨b, BN⟩ : ∃ z, Hid (d.2.2.2.1 = z) := ⟨_, rfl⟩
  obtain ⟨p, PN⟩ : ∃ z, Hid (d.2.2.2.2.1 = z) := ⟨_, rfl⟩
  obtain ⟨f, FN⟩ : ∃ z, Hid (d.2.2.2.2.2 = z) := ⟨_, rfl⟩
  have SZE : Hid (∀ f, famC d f nc = szE d f) := fun f => by rw [← NC.out]; rfl
  rw [NC.out, NL.out, RN.out, BN.out, PN.out, FN.out] at h ⊢
  rw [NL.out] at a1
  rw [NC.out] at a3
  obtain ⟨W0, hW0⟩ : ∃ W0, Hid (W0 = w.alloc (.cells #[.slice Ac nc cc, .slice Al nl cl, .int .i64 r, .int .i64 b, .int .i64 p, .int .i64 f] 26)) := ⟨_, rfl⟩
  have X0 : Hid (Ext w W0) := by rw [hW0.out]; exact Ext.alloc w _
  have B0 : Hid (Blk W0 w.heap.size #[.slice Ac nc cc, .slice Al nl cl, .int .i64 r, .int .i64 b, .int .i64 p, .int .i64 f] 26) := by rw [hW0.out]; exact Blk.new rfl _ _
  have CQ := hide (s.pnAsked_m W0 _ d n0 (kC.rd_ext h X0.out) hok)
  clear h hok hll hle
  go_enter Tryz.func12, Tryz.ntmps12
  go_wp2_with fail
  rw [← hW0.out]
  clear hW0
  refine CQ.out.mono ?_
  rintro e w1 ⟨rfl, x1⟩
  have X1 := hide (X0.out.trans x1)
  have B1 := hide (B0.out.ext x1)
  clear x1 CQ X0 B0
  cases hc : askB d n0
  · have HF : Hid (F = (0, false)) := by show _ = _; rw [← hF.out]; unfold countF; rw [if_neg (by rw [show (codeB d && inB 1 14 n0) = askB d n0 from rfl, hc]; decide)]
    clear hc
    go_wp2
    go_ret2
    rw [HF.out]
    exact ⟨rfl, X1.out⟩
  have HF : Hid (F = (((cntW d 5 n0.toNat : Nat) : Int), true)) := by show _ = _; rw [← hF.out]; unfold countF; exact if_pos hc
  unfold askB at hc
  rw [Bool.and_eq_true] at hc
  have HC := hide (codeB_ok hc.1)
  have hb := inB_ok hc.2
  obtain ⟨n, hn⟩ : ∃ n : Nat, n0 = n := ⟨n0.toNat, by omega⟩
  subst hn
  rw [Int.toNat_natCast] at HF
  have n1 : 1 ≤ n := by omega
  have n14 : n ≤ 14 := by omega
  have l5 := HC.out.lim
  rw [NL.out] at l5
  subst l5
  have h24 := HC.out.n2
  rw [NC.out] at h24
  clear hc hb hF
  have WB := hide (fun f (hf : f ≤ 5) => cntW_le HC.out hf)
  have SB := hide (fun f (hf : f < 5) => show szE d f ≤ 24 by have := szE_le HC.out hf; omega)
  have MKR := hide (fun w => run_make_row' (P := Tryz.prog) 24 3 (.int .i64 0) 8 Tryz.underlying24 (by kernel_rfl) rfl .i64 .i64 (n + 1) (by omega) (by omega) w)
  have nn : ((n : Int) + 1) = ((n + 1 : Nat) : Int) := by omega
  rw [← nn] at MKR
  clear nn
  have cm0 : Hid ((madeCells #[Value.int .i64 0] (n + 1))[0]? = some (.int .i64 0)) := by
    show _ = _
    have h := congrArg (·[0]?) (made_zeroR (n + 1))
    simpa using h
  obtain ⟨W1, hW1⟩ : ∃ W1, Hid (W1 = w1.alloc (.cells ((madeCells #[.int .i64 0] (n + 1)).setIfInBounds 0 (.int .i64 1)) 3)) := ⟨_, rfl⟩
  have XA : Hid (Ext w1 W1) := by rw [hW1.out]; exact Ext.alloc _ _
  have OA : Hid (OwnI 3 W1 w1.heap.size (some ⟨w1.heap.size, 0, none⟩) (n + 1) (n + 1) (rowN (cntW d 0) n)) := by rw [hW1.out]; exact OwnI.made1 w1 n (by omega) (Nat.le_refl _)
  have z1 := X1.out.size
  have zl := B1.out.lt
  have cm := cm0.out
  have mkr := MKR.out
  go_wp2
  rw [← hW1.out]
  clear hW1 cm mkr
  obtain ⟨bl, ol, rfl, hbl, hcl⟩ := SlI.cells LI.out.sl (by have := HC.out.lim; omega)
  have CLm : Hid (∀ (wq : World), Ext w wq → ∀ f, f < 5 → wq.cell? ⟨bl, ol + f, none⟩ = some (.int .i64 (d.2.1.getD f 0))) := fun wq xq f hf => (xq.cell hbl).trans (hcl f (by have := HC.out.lim; omega))
  clear hcl
  go_loopw [6, 7] (fun o i0 wr => ∃ (ff g : Nat), ff ≤ 5 ∧ i0 = .int .i64 ff ∧ o = .slice (some ⟨g, 0, none⟩) (n + 1) (n + 1) ∧ OwnI 3 wr w1.heap.size (some ⟨g, 0, none⟩) (n + 1) (n + 1) (rowN (cntW d ff) n) ∧ Ext w1 wr) (fun _ i0 _ => 5 - (intOf i0).toNat)
  case atStart => exact ⟨0, w1.heap.size, Nat.zero_le _, rfl, rfl, OA.out, XA.out⟩
  case round =>
    obtain ⟨ff, g, hf5, rfl, rfl, hw, hx⟩ := hrel
    clear OA XA
    have OW := hide hw
    have HX := hide hx
    clear hw hx
    obtain ⟨wo, rfl⟩ : ∃ wo : World, wo = wr := ⟨_, rfl⟩
    have zo := HX.out.size
    by_cases hlt : ff < 5
    · have WBf := hide (WB.out ff (by omega))
      have SBf := SB.out ff hlt
      obtain ⟨w3, hw3⟩ : ∃ w3, Hid (w3 = wo.alloc (.cells ((madeCells #[.int .i64 0] (n + 1)).setIfInBounds 0 (.int .i64 1)) 3)) := ⟨_, rfl⟩
      have X3 : Hid (Ext wo w3) := by rw [hw3.out]; exact Ext.alloc _ _
      have ON : Hid (OwnI 3 w3 w1.heap.size (some ⟨wo.heap.size, 0, none⟩) (n + 1) (n + 1) (rowN (bin (famC d ff 0)) n)) := by
        rw [show rowN (bin (famC d ff 0)) n = rowN (fun x => if x = 0 then 1 else 0) n from rowN_congr (fun x _ => by cases x <;> rfl), hw3.out]
        exact OwnI.made1 wo n (by omega) zo
      have gw : g < wo.heap.size := by
        rcases OwnI.form OW.out with ⟨h, _⟩ | ⟨g', h, _, h2, _⟩
        · cases h
        · injection h with h; injection h with h; subst h; exact h2
      have OW3 := hide (OwnI.below OW.out X3.out (Nat.le_refl _))
      have HX3 := hide (HX.out.trans X3.out)
      have B3 := hide (B1.out.ext HX3.out)
      have mkr := MKR.out wo
      have cm := cm0.out
      have cB := B3.out.cell
      rw [hw3.out] at cB
      have i1 : (ff : Int) < 5 := by omega
      go_wp2
      rw [← hw3.out]
      clear mkr cm cB hw3
      obtain ⟨G, hG⟩ : ∃ G, Hid (G = wo.heap.size) := ⟨_, rfl⟩
      rw [← hG.out] at ON gw
      rw [← hG.out]
      have Gg : w1.heap.size ≤ G := by rw [hG.out]; exact zo
      go_loopw [36] (fun i0 wr => ∃ (i : Nat), i ≤ nc ∧ i0 = .int .i64 i ∧ OwnI 3 wr w1.heap.size (some ⟨G, 0, none⟩) (n + 1) (n + 1) (rowN (bin (famC d ff i)) n) ∧ OwnI 3 wr w1.heap.size (some ⟨g, 0, none⟩) (n + 1) (n + 1) (rowN (cntW d ff) n) ∧ Ext w1 wr) (fun i0 _ => nc - (intOf i0).toNat)
      case atStart => exact ⟨0, Nat.zero_le _, rfl, ON.out, OW3.out, HX3.out⟩
      case round =>
        obtain ⟨i, hi, rfl, hn', hw', hx'⟩ := hrel
        clear ON OW3 HX3
        have ON := hide hn'
        have OW3 := hide hw'
        have HX3 := hide hx'
        clear hn' hw' hx'
        obtain ⟨w4, rfl⟩ : ∃ w4 : World, w4 = wr := ⟨_, rfl⟩
        have z4 := HX3.out.size
        have Gw : G < w4.heap.size := by
          rcases OwnI.form ON.out with ⟨h, _⟩ | ⟨g', h, _, h2, _⟩
          · cases h
          · injection h with h; injection h with h; subst h; exact h2
        by_cases hli : i < nc
        · obtain ⟨x, hxk⟩ : ∃ x, Hid (d.1[i]? = some x) := get_ex d.1 i (by rw [NC.out]; exact hli)
          obtain ⟨bb, off, rfl, hbb, q0, q1, q2, q3, -⟩ := (HL.out.ext (X1.out.trans HX3.out) (Nat.le_refl _)).element i x hxk.out
          have eb := elB_ok (HC.out.els i x hxk.out)
          obtain ⟨fa, hfa⟩ : ∃ fa : Nat, x.2.1 = (fa : Int) := ⟨x.2.1.toNat, by omega⟩
          have FE : Hid (famE d i = fa) := by show _ = _; rw [famE_eq hxk.out, hfa, Int.toNat_natCast]
          have FSU := hide (famC_succ d ff i)
          rw [FE.out] at FSU
          have cl24 := famC_le d ff i
          obtain ⟨c, hc⟩ : ∃ c, Hid (famC d ff i = c) := ⟨_, rfl⟩
          rw [hc.out] at ON FSU cl24
          obtain ⟨W5, hW5⟩ : ∃ W5, Hid (W5 = w4.alloc (.cells #[.string (bs x.1), .int .i64 x.2.1, .int .i64 x.2.2.1, .int .i64 x.2.2.2] 47)) := ⟨_, rfl⟩
          have X5 : Hid (Ext w4 W5) := by rw [hW5.out]; exact Ext.alloc _ _
          have B5 : Hid (Blk W5 w4.heap.size #[.string (bs x.1), .int .i64 x.2.1, .int .i64 x.2.2.1, .int .i64 x.2.2.2] 47) := by rw [hW5.out]; exact Blk.new rfl _ _
          have O5 : Hid (OwnI 3 W5 w1.heap.size (some ⟨G, 0, none⟩) (n + 1) (n + 1) (rowN (stepB c n) n)) := by
            rw [show rowN (stepB c n) n = rowN (bin c) n from rowN_congr (fun x hx => stepB_start hx)]
            exact OwnI.below ON.out X5.out (Nat.le_refl _)
          have OW5 := hide (OwnI.below OW3.out X5.out (Nat.le_refl _))
          have HX5 := hide (HX3.out.trans X5.out)
          rw [hfa] at q1 hW5 B5
          generalize bs x.1 = x0 at *
          generalize x.2.2.1 = x2 at *
          generalize x.2.2.2 = x3 at *
          have ii : (i : Int) < nc := by omega
          clear hfa eb
          go_wp2
          rw [← hW5.out]
          clear hW5 q0 q1 q2 q3
          go_loopw [11] (fun i0 wr => ∃ (k : Nat), k ≤ n ∧ i0 = .int .i64 k ∧ OwnI 3 wr w1.heap.size (some ⟨G, 0, none⟩) (n + 1) (n + 1) (rowN (stepB c k) n) ∧ (fa ≠ ff → k = n) ∧ Blk wr w4.heap.size #[.string x0, .int .i64 fa, .int .i64 x2, .int .i64 x3] 47 ∧ OwnI 3 wr w1.heap.size (some ⟨g, 0, none⟩) (n + 1) (n + 1) (rowN (cntW d ff) n) ∧ Ext w1 wr) (fun i0 _ => (intOf i0).toNat)
          case atStart => exact ⟨n, Nat.le_refl _, rfl, O5.out, fun _ => rfl, B5.out, OW5.out, HX5.out⟩
          case round =>
            obtain ⟨k, hk, rfl, hn', hkn, hb5, hw', hx'⟩ := hrel
            clear O5 OW5 HX5 B5
            have ON5 := hide hn'
            have OW5 := hide hw'
            have HX5 := hide hx'
            have B5 := hide hb5
            have KN := hide hkn
            clear hn' hw' hx' hb5 hkn
            have c5 := B5.out.cell
            by_cases hgo : 0 < k ∧ fa = ff
            · obtain ⟨hk0, hfe⟩ := hgo
              obtain rfl : ff = fa := hfe.symm
              obtain ⟨k', rfl⟩ : ∃ k', k = k' + 1 := ⟨k - 1, by omega⟩
              have cK := ON5.out.cell (k' + 1) (by omega)
              have cJ := ON5.out.cell k' (by omega)
              rw [rowN_at _ (by omega)] at cK cJ
              have fK := ON5.out.free (k' + 1)
              have AT := hide (stepB_at c k')
              have bK := stepB_le (c := c) (by omega) (k' + 1) (k' + 1)
              have bJ := stepB_le (c := c) (by omega) (k' + 1) k'
              have RS : Hid (rowN (stepB c k') n = (rowN (stepB c (k' + 1)) n).set (k' + 1) ((stepB c (k' + 1) (k' + 1) + stepB c (k' + 1) k' : Nat) : Int)) := by
                show _ = _
                rw [rowN_set (g := stepB c (k' + 1)) (show k' + 1 ≤ n by omega) (fun x _ hx => stepB_other hx), AT.out]
              generalize stepB c (k' + 1) (k' + 1) = P at *
              generalize stepB c (k' + 1) k' = Q at *
              have RC : Hid (((P + Q : Nat) : Int) = (P : Int) + (Q : Int)) := by show _ = _; rw [Int.natCast_add]
              rw [RC.out] at RS
              have kw1 : IntKind.i64.wrap ((P : Int) + (Q : Int)) = (P : Int) + (Q : Int) := IntWalk.i64_in _ (by omega)
              have e1 : (k' : Int) < n := by omega
              clear AT
              go_wp2
              go_region
              all_goals
                have O6 : Hid (OwnI 3 ((wr.setCell ⟨G, k' + 1, none⟩ (.int .i64 ((P : Int) + (Q : Int)))).drew) w1.heap.size (some ⟨G, 0, none⟩) (n + 1) (n + 1) (rowN (stepB c k') n)) := by
                  rw [RS.out]
                  exact Own.drew (OwnI.set ON5.out (k' + 1) _)
                have OW6 : Hid (OwnI 3 ((wr.setCell ⟨G, k' + 1, none⟩ (.int .i64 ((P : Int) + (Q : Int)))).drew) w1.heap.size (some ⟨g, 0, none⟩) (n + 1) (n + 1) (rowN (cntW d ff) n)) := Own.drew (Own.far OW5.out (fun a ha => by injection ha with ha; subst ha; show g ≠ G; omega) _)
                have B6 : Hid (Blk ((wr.setCell ⟨G, k' + 1, none⟩ (.int .i64 ((P : Int) + (Q : Int)))).drew) w4.heap.size #[.string x0, .int .i64 ff, .int .i64 x2, .int .i64 x3] 47) := (B5.out.far (by show w4.heap.size ≠ G; omega) _).ext (Ext.drew _)
                have X6 : Hid (Ext w1 ((wr.setCell ⟨G, k' + 1, none⟩ (.int .i64 ((P : Int) + (Q : Int)))).drew)) := Ext.trans (Below.setCell HX5.out (by show _ ≤ G; exact Gg) _) (Ext.drew _)
                clear kw1 cK cJ fK c5
                generalize (wr.setCell ⟨G, k' + 1, none⟩ (.int .i64 ((P : Int) + (Q : Int)))).drew = w6 at *
                go_wp2
                go_roundw
                case rel => exact ⟨k', by omega, rfl, O6.out, fun h => absurd rfl h, B6.out, OW6.out, X6.out⟩
                case measure => simp [intOf]
            · have RW : Hid (rowN (stepB c k) n = rowN (bin (famC d ff (i + 1))) n) := by
                show _ = _
                by_cases hfe : fa = ff
                · have hk0 : k = 0 := by
                    apply Classical.byContradiction
                    intro h
                    exact hgo ⟨by omega, hfe⟩
                  rw [FSU.out, if_pos hfe, hk0]
                  exact rowN_congr (fun x _ => stepB_end c x)
                · rw [FSU.out, if_neg hfe, KN.out hfe]
                  exact rowN_congr (fun x hx => stepB_start hx)
              rw [RW.out] at ON5
              by_cases h0 : 0 < k
              · have e1 : ((fa : Int) == (ff : Int)) = false := by
                  have : fa ≠ ff := fun h => hgo ⟨h0, h⟩
                  simp; omega
                clear hgo
                go_wp2
                go_roundw
                case rel => exact ⟨i + 1, by omega, by go_num, ON5.out, OW5.out, HX5.out⟩
                case measure => simp [intOf]; omega
              · clear hgo
                go_wp2
                go_roundw
                case rel => exact ⟨i + 1, by omega, by go_num, ON5.out, OW5.out, HX5.out⟩
                case measure => simp [intOf]; omega
        · have ei : nc = i := by omega
          subst ei
          rw [SZE.out] at ON
          obtain ⟨sq, hs⟩ : ∃ sq, Hid (szE d ff = sq) := ⟨_, rfl⟩
          rw [hs.out] at ON SBf
          have lb := limE_eq HC.out hlt
          obtain ⟨lm, hlm⟩ : ∃ lm, Hid (limE d ff = lm) := ⟨_, rfl⟩
          have lb1 := hide lb.1
          rw [hlm.out] at lb1
          clear lb
          obtain ⟨ways, hwy⟩ : ∃ ways, Hid (cntW d ff = ways) := ⟨_, rfl⟩
          have NW := hide (fun x => cntW_succ d ff x)
          rw [hwy.out, hs.out, hlm.out] at NW
          rw [hwy.out] at OW3 WBf
          obtain ⟨w6, hw6⟩ : ∃ w6, Hid (w6 = w4.alloc (.cells (madeCells #[.int .i64 0] (n + 1)) 3)) := ⟨_, rfl⟩
          have X6 : Hid (Ext w4 w6) := by rw [hw6.out]; exact Ext.alloc _ _
          have OT : Hid (OwnI 3 w6 w1.heap.size (some ⟨w4.heap.size, 0, none⟩) (n + 1) (n + 1) (rowN (nextP (cntW d (ff + 1)) 0 0) n)) := by
            rw [show rowN (nextP (cntW d (ff + 1)) 0 0) n = rowN (fun _ => 0) n from rowN_congr (fun x _ => by unfold nextP; rw [if_neg (by omega)]; split <;> rfl), rowN_zero, hw6.out]
            exact OwnI.made w4 (n + 1) (by omega) z4
          have ON6 := hide (OwnI.below ON.out X6.out (Nat.le_refl _))
          have OW6 := hide (OwnI.below OW3.out X6.out (Nat.le_refl _))
          have HX6 := hide (HX3.out.trans X6.out)
          have mkr := MKR.out w4
          rw [← hw6.out] at mkr
          go_wp2
          clear mkr hw6
          obtain ⟨H, hH⟩ : ∃ H, Hid (H = w4.heap.size) := ⟨_, rfl⟩
          rw [← hH.out] at OT Gw
          rw [← hH.out]
          have Hg : w1.heap.size ≤ H := by rw [hH.out]; exact z4
          have gH : g ≠ H := by omega
          have GH : G ≠ H := by omega
          go_loopw [68] (fun i0 wr => ∃ (k : Nat), k ≤ n + 1 ∧ i0 = .int .i64 k ∧ OwnI 3 wr w1.heap.size (some ⟨H, 0, none⟩) (n + 1) (n + 1) (rowN (nextP (cntW d (ff + 1)) 0 k) n) ∧ OwnI 3 wr w1.heap.size (some ⟨G, 0, none⟩) (n + 1) (n + 1) (rowN (bin sq) n) ∧ OwnI 3 wr w1.heap.size (some ⟨g, 0, none⟩) (n + 1) (n + 1) (rowN ways n) ∧ Ext w1 wr) (fun i0 _ => n + 1 - (intOf i0).toNat)
          case atStart => exact ⟨0, Nat.zero_le _, rfl, OT.out, ON6.out, OW6.out, HX6.out⟩
          case round =>
            obtain ⟨k, hk, rfl, ht', hn', hw', hx'⟩ := hrel
            clear OT ON6 OW6 HX6
            have OT := hide ht'
            have ON6 := hide hn'
            have OW6 := hide hw'
            have HX6 := hide hx'
            clear ht' hn' hw' hx'
            obtain ⟨w7, rfl⟩ : ∃ w7 : World, w7 = wr := ⟨_, rfl⟩
            by_cases hlk : k < n + 1
            · have ik : (k : Int) < (n : Int) + 1 := by omega
              go_wp2
              go_loopw [14] (fun i0 wr => ∃ (j : Nat), j ≤ min k lm + 1 ∧ i0 = .int .i64 j ∧ OwnI 3 wr w1.heap.size (some ⟨H, 0, none⟩) (n + 1) (n + 1) (rowN (nextP (cntW d (ff + 1)) (sumTo (fun j => ways (k - j) * bin sq j) j) k) n) ∧ OwnI 3 wr w1.heap.size (some ⟨G, 0, none⟩) (n + 1) (n + 1) (rowN (bin sq) n) ∧ OwnI 3 wr w1.heap.size (some ⟨g, 0, none⟩) (n + 1) (n + 1) (rowN ways n) ∧ Ext w1 wr) (fun i0 _ => n + 2 - (intOf i0).toNat)
              case atStart => exact ⟨0, Nat.zero_le _, rfl, OT.out, ON6.out, OW6.out, HX6.out⟩
              case round =>
                obtain ⟨j, hj, rfl, ht', hn', hw', hx'⟩ := hrel
                clear OT ON6 OW6 HX6
                have OT := hide ht'
                have ON6 := hide hn'
                have OW6 := hide hw'
                have HX6 := hide hx'
                clear ht' hn' hw' hx'
                have cB := (B1.out.ext HX6.out).cell
                have cL := CLm.out wr (X1.out.trans HX6.out) ff hlt
                rw [← lb1.out] at cL
                obtain ⟨M, hM⟩ : ∃ M, Hid (min k lm = M) := ⟨_, rfl⟩
                have mk1 : M ≤ k := by rw [← hM.out]; omega
                rw [hM.out] at hj
                have LE : Hid (∀ w, Calls Tryz.prog 39 #[.int .i64 k, .int .i64 lm] w fun e w' => e = .returned (.int .i64 (M : Nat)) ∧ w = w') := fun w => by rw [← hM.out]; exact s.l1Least_any k lm w
                by_cases hlj : j ≤ M
                · have lj : (j : Int) ≤ M := by omega
                  have kj : (k : Int) - j = ((k - j : Nat) : Int) := by omega
                  have KJ := hide kj
                  have cT := OT.out.cell k (by omega)
                  have cN := ON6.out.cell j (by omega)
                  have cW := OW6.out.cell (k - j) (by omega)
                  rw [rowN_at _ (by omega)] at cT cN cW
                  rw [show nextP (cntW d (ff + 1)) (sumTo (fun j => ways (k - j) * bin sq j) j) k k = sumTo (fun j => ways (k - j) * bin sq j) j by unfold nextP; rw [if_neg (by omega), if_pos rfl]] at cT
                  have fT := OT.out.free k
                  have sb := conv_le (ways := ways) sq lm k j WBf.out
                  have sb2 : 16777216 * 2 ^ sq ≤ 281474976710656 := Nat.le_trans (Nat.mul_le_mul_left _ (Nat.pow_le_pow_right (by decide) SBf)) (by decide)
                  have wb := WBf.out (k - j)
                  have bb9 := bin24 SBf j
                  have SS : Hid (sumTo (fun j => ways (k - j) * bin sq j) (j + 1) = sumTo (fun j => ways (k - j) * bin sq j) j + ways (k - j) * bin sq j) := rfl
                  have RS : Hid (rowN (nextP (cntW d (ff + 1)) (sumTo (fun j => ways (k - j) * bin sq j) (j + 1)) k) n = (rowN (nextP (cntW d (ff + 1)) (sumTo (fun j => ways (k - j) * bin sq j) j) k) n).set k ((sumTo (fun j => ways (k - j) * bin sq j) j + ways (k - j) * bin sq j : Nat) : Int)) := by
                    show _ = _
                    rw [rowN_set (g := nextP (cntW d (ff + 1)) (sumTo (fun j => ways (k - j) * bin sq j) j) k) (g' := nextP (cntW d (ff + 1)) (sumTo (fun j => ways (k - j) * bin sq j) (j + 1)) k) (show k ≤ n by omega) (fun x _ hx => by unfold nextP; rw [if_neg hx, if_neg hx])]
                    congr 2
                    unfold nextP
                    rw [if_neg (by omega), if_pos rfl]
                    rfl
                  clear SS
                  generalize sumTo (fun j => ways (k - j) * bin sq j) j = S at *
                  generalize hS' : sumTo (fun j => ways (k - j) * bin sq j) (j + 1) = S' at *
                  have HS := hide hS'
                  clear hS'
                  generalize bin sq j = Bj at *
                  generalize ways (k - j) = Wj at *
                  have sbS : S ≤ 281474976710656 := Nat.le_trans sb sb2
                  clear sb sb2
                  have p0 : (0 : Int) ≤ (Wj : Int) * (Bj : Int) := Int.mul_nonneg (by omega) (by omega)
                  have p1 : (Wj : Int) * (Bj : Int) ≤ (Wj : Int) * 16777216 := Int.mul_le_mul_of_nonneg_left (by omega) (by omega)
                  have p2 : (Wj : Int) * (Bj : Int) ≤ 281474976710656 := by omega
                  have RC : Hid (((S + Wj * Bj : Nat) : Int) = (S : Int) + (Wj : Int) * (Bj : Int)) := by show _ = _; rw [Int.natCast_add, Int.natCast_mul]
                  rw [RC.out] at RS
                  have e0 : 0 ≤ (k : Int) - j := by omega
                  have e1 : (k : Int) - j < (n : Int) + 1 := by omega
                  have e3 : ((k : Int) - j).toNat = k - j := by omega
                  have kw1 : IntKind.i64.wrap ((k : Int) - j) = (k : Int) - j := IntWalk.i64_in _ (by omega)
                  have kw2 : IntKind.i64.wrap ((Wj : Int) * (Bj : Int)) = (Wj : Int) * (Bj : Int) := IntWalk.i64_in _ (by omega)
                  have kw3 : IntKind.i64.wrap ((S : Int) + (Wj : Int) * (Bj : Int)) = (S : Int) + (Wj : Int) * (Bj : Int) := IntWalk.i64_in _ (by omega)
                  clear p1 kj
                  go_wp2_with (go_at_call 39; refine (LE.out _).mono ?_; rintro e w' ⟨rfl, rfl⟩)
                  clear cB cL
                  go_region
                  all_goals
                    have O7 : Hid (OwnI 3 ((wr.setCell ⟨H, k, none⟩ (.int .i64 ((S : Int) + (Wj : Int) * (Bj : Int)))).drew) w1.heap.size (some ⟨H, 0, none⟩) (n + 1) (n + 1) (rowN (nextP (cntW d (ff + 1)) S' k) n)) := by
                      rw [RS.out]
                      exact Own.drew (OwnI.set OT.out k _)
                    have G7 : Hid (OwnI 3 ((wr.setCell ⟨H, k, none⟩ (.int .i64 ((S : Int) + (Wj : Int) * (Bj : Int)))).drew) w1.heap.size (some ⟨G, 0, none⟩) (n + 1) (n + 1) (rowN (bin sq) n)) := Own.drew (Own.far ON6.out (fun a ha => by injection ha with ha; subst ha; exact GH) _)
                    have W7 : Hid (OwnI 3 ((wr.setCell ⟨H, k, none⟩ (.int .i64 ((S : Int) + (Wj : Int) * (Bj : Int)))).drew) w1.heap.size (some ⟨g, 0, none⟩) (n + 1) (n + 1) (rowN ways n)) := Own.drew (Own.far OW6.out (fun a ha => by injection ha with ha; subst ha; exact gH) _)
                    have X7 : Hid (Ext w1 ((wr.setCell ⟨H, k, none⟩ (.int .i64 ((S : Int) + (Wj : Int) * (Bj : Int)))).drew)) := Ext.trans (Below.setCell HX6.out (by show _ ≤ H; exact Hg) _) (Ext.drew _)
                    clear kw1 kw2 kw3 cT cN cW fT p0 p2
                    generalize (wr.setCell ⟨H, k, none⟩ (.int .i64 ((S : Int) + (Wj : Int) * (Bj : Int)))).drew = w8 at *
                    go_wp2
                    go_roundw
                    case rel => exact ⟨j + 1, by rw [hM.out]; omega, by go_num, by rw [HS.out]; exact O7.out, G7.out, W7.out, X7.out⟩
                    case measure => simp [intOf]; omega
                · have lj : (M : Int) < j := by omega
                  have AE : Hid (rowN (nextP (cntW d (ff + 1)) (sumTo (fun j => ways (k - j) * bin sq j) j) k) n = rowN (nextP (cntW d (ff + 1)) 0 (k + 1)) n) := by
                    show _ = _
                    have ej : j = min k lm + 1 := by rw [hM.out]; omega
                    subst ej
                    refine rowN_congr (fun x hx => ?_)
                    unfold nextP
                    by_cases h1 : x < k
                    · rw [if_pos h1, if_pos (by omega)]
                    · rw [if_neg h1]
                      by_cases h2 : x = k
                      · rw [if_pos h2, if_pos (by omega), h2, NW.out k]
                        rfl
                      · rw [if_neg h2, if_neg (by omega)]
                        split <;> rfl
                  rw [AE.out] at OT
                  go_wp2_with (go_at_call 39; refine (LE.out _).mono ?_; rintro e w' ⟨rfl, rfl⟩)
                  go_roundw
                  case rel => exact ⟨k + 1, by omega, by go_num, OT.out, ON6.out, OW6.out, HX6.out⟩
                  case measure => simp [intOf]; omega
            · have AE : Hid (rowN (nextP (cntW d (ff + 1)) 0 k) n = rowN (cntW d (ff + 1)) n) := by
                show _ = _
                exact rowN_congr (fun x hx => by unfold nextP; rw [if_pos (by omega)])
              rw [AE.out] at OT
              go_wp2
              go_roundw
              case rel => exact ⟨ff + 1, H, by omega, by go_num, rfl, OT.out, HX6.out⟩
              case measure => simp [intOf]; omega
    · have ek : ff = 5 := by omega
      subst ek
      have cN := OW.out.cell n (by omega)
      rw [rowN_at _ (Nat.le_refl _)] at cN
      go_wp2
      go_ret2
      rw [HF.out]
      exact ⟨rfl, X1.out.trans HX.out⟩
end Go.Proofs.YtegoapdbpfhkiaaGreat
