/- GP: PC, PD, PE, PF, PG, PH, PI, PJ, PK, PL, PM in one text. -/
import Derived.Test.YtijgndfhfggipaaGreatGA
import Derived.Test.YtijgndfhfggipaaGreatTK
import Derived.Test.YtijgndfhfggipaaGreatRK
import Derived.Test.YtijgndfhfggipaaGreatShRev
import Derived.Sort.OwnSortedInts
import Derived.Deep.RegionHeld3
import Derived.Test.YtijgndfhfggipaaGreatRL
import Derived.Test.YtijgndfhfggipaaGreatRV
/- A greedy choice with room for each family: how many it takes. Of no program. -/
namespace Go.Proofs.YtijgndfhfggipaaGreat
set_option linter.unusedVariables false

section
variable (fam : Nat → Nat) (lim : Nat → Nat) (base : Nat → Int)
def cntF (f : Nat) (l : List Nat) : Nat := (l.filter (fun i => fam i == f)).length
def roomF (out : List Nat) (f : Nat) : Int := (lim f : Int) - (cntF fam f out : Nat)
/-- The best one among the first k that there is room for, or -1. -/
def pickF (out : List Nat) : Nat → Int
  | 0 => -1
  | k + 1 => if 0 < roomF fam lim out (fam k) ∧ k ∉ out ∧ (pickF out k < 0 ∨ base (pickF out k).toNat < base k) then (k : Int) else pickF out k
/-- The choice of n at most out of N, with so many rounds left. -/
def choosF (N n : Nat) : Nat → List Nat → List Nat
  | 0, out => out
  | q + 1, out => if out.length < n then (if pickF fam lim base out N < 0 then out else choosF N n q (out ++ [(pickF fam lim base out N).toNat])) else out
def totF (g : Nat → Nat) : Nat := g 0 + g 1 + g 2 + g 3 + g 4

theorem pickF_or (out : List Nat) (k : Nat) : pickF fam lim base out k = -1 ∨ ∃ i : Nat, i < k ∧ pickF fam lim base out k = i ∧ 0 < roomF fam lim out (fam i) ∧ i ∉ out := by
  induction k with
  | zero => exact .inl rfl
  | succ k ih =>
    unfold pickF
    split
    · rename_i h
      exact .inr ⟨k, by omega, rfl, h.1, h.2.1⟩
    · rcases ih with h | ⟨i, h1, h2, h3, h4⟩
      · exact .inl h
      · exact .inr ⟨i, by omega, h2, h3, h4⟩
theorem pickF_none (out : List Nat) (k : Nat) (h : pickF fam lim base out k < 0) : ∀ i, i < k → 0 < roomF fam lim out (fam i) → i ∈ out := by
  induction k with
  | zero => intro i hi; omega
  | succ k ih =>
    unfold pickF at h
    split at h
    · omega
    · rename_i hc
      intro i hi hr
      by_cases hik : i = k
      · subst hik
        apply Classical.byContradiction
        intro hm
        exact hc ⟨hr, hm, .inl h⟩
      · exact ih h i (by omega) hr
theorem nodup_len_le {l l' : List Nat} (h : l.Nodup) (hs : ∀ x ∈ l, x ∈ l') : l.length ≤ l'.length := by
  induction l generalizing l' with
  | nil => exact Nat.zero_le _
  | cons x t ih =>
    rw [List.nodup_cons] at h
    have hx : x ∈ l' := hs x (by simp)
    have h1 := ih h.2 (l' := l'.erase x) (fun y hy => by
      have hne : y ≠ x := fun e => h.1 (e ▸ hy)
      exact (List.mem_erase_of_ne hne).2 (hs y (by simp [hy])))
    rw [List.length_erase_of_mem hx] at h1
    have : 0 < l'.length := List.length_pos_of_mem hx
    simp only [List.length_cons]
    omega
theorem cntF_le {l l' : List Nat} (f : Nat) (h : l.Nodup) (hs : ∀ x ∈ l, fam x = f → x ∈ l') : cntF fam f l ≤ cntF fam f l' := by
  unfold cntF
  refine nodup_len_le (h.filter _) (fun x hx => ?_)
  rw [List.mem_filter] at hx ⊢
  have hf : fam x = f := by simpa using hx.2
  exact ⟨hs x hx.1 hf, hx.2⟩
theorem cntF_cons (f i : Nat) (t : List Nat) : cntF fam f (i :: t) = (if fam i = f then 1 else 0) + cntF fam f t := by
  unfold cntF
  rw [List.filter_cons]
  by_cases h : fam i = f
  · simp [h]; omega
  · simp [h]
theorem cntF_snoc (f i : Nat) (t : List Nat) : cntF fam f (t ++ [i]) = cntF fam f t + (if fam i = f then 1 else 0) := by
  unfold cntF
  rw [List.filter_append, List.length_append]
  congr 1
  by_cases h : fam i = f <;> simp [h]
theorem len_totF (l : List Nat) (h : ∀ i ∈ l, fam i < 5) : l.length = totF (fun f => cntF fam f l) := by
  induction l with
  | nil => rfl
  | cons i t ih =>
    have h1 := ih (fun j hj => h j (by simp [hj]))
    have h2 := h i (by simp)
    simp only [totF, cntF_cons, List.length_cons] at h1 ⊢
    have h3 : fam i = 0 ∨ fam i = 1 ∨ fam i = 2 ∨ fam i = 3 ∨ fam i = 4 := by omega
    rcases h3 with h3 | h3 | h3 | h3 | h3 <;> simp only [h3] <;> simp <;> omega
/-- What the choice keeps. -/
structure ChOk (N n : Nat) (out : List Nat) : Prop where
  nd : out.Nodup
  lt : ∀ i ∈ out, i < N
  lim : ∀ f, cntF fam f out ≤ lim f
  len : out.length ≤ n
variable {fam lim base}
theorem ChOk.next {N n : Nat} {out : List Nat} (h : ChOk fam lim N n out) {i : Nat} (hi : i < N) (hr : 0 < roomF fam lim out (fam i)) (hm : i ∉ out) (hl : out.length < n) : ChOk fam lim N n (out ++ [i]) := by
  refine ⟨?_, ?_, ?_, by rw [List.length_append]; exact hl⟩
  · rw [List.nodup_append]
    refine ⟨h.nd, by simp, fun a ha b hb e => ?_⟩
    simp at hb
    subst hb e
    exact hm ha
  · intro j hj
    rcases List.mem_append.1 hj with hj | hj
    · exact h.lt j hj
    · simp at hj; omega
  · intro f
    rw [cntF_snoc]
    have := h.lim f
    split
    · rename_i e
      subst e
      unfold roomF at hr
      omega
    · omega
/-- How many the choice takes: as many as fit, n at most. -/
theorem choosF_len {N n : Nat} (hf : ∀ i, i < N → fam i < 5) : ∀ (q : Nat) (out : List Nat), ChOk fam lim N n out → n ≤ out.length + q → (choosF fam lim base N n q out).length = min n (totF (fun f => min (cntF fam f (List.range N)) (lim f))) := by
  have le : ∀ out, ChOk fam lim N n out → out.length ≤ totF (fun f => min (cntF fam f (List.range N)) (lim f)) := by
    intro out h
    rw [len_totF fam out (fun i hi => hf i (h.lt i hi))]
    have h1 : ∀ f, cntF fam f out ≤ min (cntF fam f (List.range N)) (lim f) := fun f => by
      have h2 := cntF_le fam (l' := List.range N) f h.nd (fun x hx _ => List.mem_range.2 (h.lt x hx))
      have h3 := h.lim f
      omega
    simp only [totF]
    have := h1 0; have := h1 1; have := h1 2; have := h1 3; have := h1 4
    omega
  intro q
  induction q with
  | zero =>
    intro out h hq
    have h1 := le out h
    have h2 := h.len
    unfold choosF
    omega
  | succ q ih =>
    intro out h hq
    unfold choosF
    split
    · rename_i hl
      split
      · rename_i hp
        have hn := pickF_none fam lim base out N hp
        have h1 := le out h
        have h2 : totF (fun f => min (cntF fam f (List.range N)) (lim f)) ≤ out.length := by
          rw [len_totF fam out (fun i hi => hf i (h.lt i hi))]
          have h3 : ∀ f, min (cntF fam f (List.range N)) (lim f) ≤ cntF fam f out := fun f => by
            by_cases hc : cntF fam f out < lim f
            · have h4 := cntF_le fam (l' := out) f (List.nodup_range (n := N)) (fun x hx e => hn x (List.mem_range.1 hx) (by unfold roomF; rw [e]; omega))
              omega
            · omega
          simp only [totF]
          have := h3 0; have := h3 1; have := h3 2; have := h3 3; have := h3 4
          omega
        omega
      · rename_i hp
        rcases pickF_or fam lim base out N with h1 | ⟨i, h1, h2, h3, h4⟩
        · omega
        · rw [h2, Int.toNat_natCast]
          exact ih _ (h.next h1 h3 h4 hl) (by rw [List.length_append, List.length_singleton]; omega)
    · rename_i hl
      have h1 := le out h
      have h2 := h.len
      omega
end
end Go.Proofs.YtijgndfhfggipaaGreat

/- The plain law of the bound of a plan: bases laid out, the greatest of them summed. -/
namespace Go.Proofs.YtijgndfhfggipaaGreat
open Go.RowKit Go.Sort
set_option linter.unusedVariables false

def baseE (x : ElD) : Int := x.2.2.2
def repB (r : Nat) (x : ElD) : List Int := List.replicate r (baseE x)
/-- The bases of the first k elements, each r times. -/
def basK (xs : List ElD) (r k : Nat) : List Int := ((xs.take k).map (repB r)).flatten
theorem basK_zero (xs : List ElD) (r : Nat) : basK xs r 0 = [] := rfl
theorem basK_succ {xs : List ElD} {r k : Nat} {x : ElD} (h : xs[k]? = some x) : basK xs r (k + 1) = basK xs r k ++ List.replicate r (baseE x) := by
  obtain ⟨hk, rfl⟩ := List.getElem?_eq_some_iff.1 h
  unfold basK
  rw [List.take_succ_eq_append_getElem hk, List.map_append, List.flatten_append]
  simp [repB]
theorem basK_len (xs : List ElD) (r k : Nat) (h : k ≤ xs.length) : (basK xs r k).length = k * r := by
  induction k with
  | zero => simp [basK]
  | succ k ih =>
    rw [basK_succ (List.getElem?_eq_getElem (show k < xs.length by omega)), List.length_append, ih (by omega), List.length_replicate, Nat.add_mul]
    omega
theorem basK_bd {d : CoD} (hd : CodeOk d) (r k : Nat) : ∀ z ∈ basK d.1 r k, 0 ≤ z ∧ z ≤ 2000 := by
  intro z hz
  unfold basK at hz
  obtain ⟨l, hl, hzl⟩ := List.mem_flatten.1 hz
  obtain ⟨x, hx, rfl⟩ := List.mem_map.1 hl
  have hx2 : x ∈ d.1 := List.mem_of_mem_take hx
  obtain ⟨i, hi⟩ := List.getElem?_of_mem hx2
  have := elB_ok (hd.els i x hi)
  rw [List.eq_of_mem_replicate hzl]
  unfold baseE
  omega
def basL (d : CoD) : List Int := basK d.1 d.2.2.1.toNat d.1.length
/-- The sum of the m greatest. -/
def topS (zs : List Int) (m : Nat) : Int := ((sortD zs).take m).sum
def planS (d : CoD) (n : Int) : Int := topS (basL d) (n + 4).toNat
def planF (d : CoD) (n : Int) : Int × Bool := if codeB d && inB 1 14 n then ((planS d n * (100 + d.2.2.2.1) + 99) / 100 + n, true) else (0, false)
theorem sum_rev (l : List Int) : l.reverse.sum = l.sum := by
  induction l with
  | nil => rfl
  | cons x t ih => rw [List.reverse_cons, sum_append, ih]; simp; omega
/-- Of the list in increasing order the last ones, added one by one. -/
def tailS (ys : List Int) (m k : Nat) : Int := ((ys.take k).drop (ys.length - m)).sum
theorem tailS_zero (ys : List Int) (m : Nat) : tailS ys m 0 = 0 := by simp [tailS]
theorem tailS_succ (ys : List Int) (m k : Nat) (h : k < ys.length) : tailS ys m (k + 1) = tailS ys m k + (if ys.length - k ≤ m then ys.getD k 0 else 0) := by
  unfold tailS
  rw [List.take_succ_eq_append_getElem h]
  by_cases hm : ys.length - k ≤ m
  · rw [if_pos hm, List.drop_append_of_le_length (by simp; omega), sum_append]
    simp [h]
  · rw [if_neg hm, List.drop_eq_nil_of_le (by simp; omega), List.drop_eq_nil_of_le (by simp; omega)]
    simp
theorem tailS_all (zs : List Int) (m : Nat) : tailS (sortD zs).reverse m zs.length = topS zs m := by
  unfold tailS topS
  rw [List.take_of_length_le (by simp [sortD_len]), List.length_reverse, sortD_len, ← sum_rev ((sortD zs).take m), List.reverse_take]
  have := sortD_len zs
  by_cases h : m ≤ zs.length
  · rw [this]
  · rw [show zs.length - m = 0 by omega, show (sortD zs).length - m = 0 by omega]
theorem take_bd {l : List Int} (h : ∀ z ∈ l, 0 ≤ z ∧ z ≤ 2000) : 0 ≤ l.sum ∧ l.sum ≤ 2000 * (l.length : Int) := sum_bd2 l h
end Go.Proofs.YtijgndfhfggipaaGreat

/- Lists of the call's own sorted and turned about; the reference's list in increasing order. -/
namespace Go.Proofs.YtijgndfhfggipaaGreat
open Go.RowKit Go.Sort
set_option linter.unusedVariables false

theorem OwnI.block {e : TypeId} {w : World} {lo n c g : Nat} {zs : List Int} (h : OwnI e w lo (some ⟨g, 0, none⟩) n c zs) : ∃ cur, w.heap[g]? = some (.cells cur e (0, 0)) ∧ lo ≤ g ∧ n ≤ c ∧ c ≤ maxLen ∧ cur.size = c * 1 := by
  rcases h.2 with ⟨h, _⟩ | ⟨g', cap, cur, h, h1, h2, h3, h4, h5, _⟩
  · cases h
  · simp only [Value.slice.injEq, Option.some.injEq, Addr.mk.injEq, and_true] at h
    obtain ⟨rfl, _, rfl⟩ := h
    exact ⟨cur, h2, h1, h3, h4, h5⟩
theorem sortOwn_any (g c lo n : Nat) (zs : List Int) (w : World) (h : OwnI 3 w lo (some ⟨g, 0, none⟩) n c zs) (hn : n ≤ 1048576) :
    Calls Tryz.prog 45 #[.slice (some ⟨g, 0, none⟩) n c] w fun e w' => e = .returned (.tuple #[]) ∧ OwnI 3 w' lo (some ⟨g, 0, none⟩) n c (sortD zs).reverse ∧ w.grownBy w' (some g) := by
  have hl := h.len
  subst hl
  obtain ⟨cur, hb, h1, h2, h3, h4⟩ := h.block
  have hg : g < w.heap.size := (Array.getElem?_eq_some_iff.1 hb).1
  refine (slices_Sort_int g 0 c zs w (Own.holds h) hg (by omega)).mono ?_
  rintro e w' ⟨rfl, m, os, rfl⟩
  rw [show (zs.mergeSort fun x y => decide (x ≤ y)) = sortA zs from rfl, sortA_eq]
  exact ⟨rfl, ownsRow_sortedI (by rw [List.length_reverse, sortD_len]) h1 hb h2 h3 h4, grownBy_sortedI _⟩
theorem grow_none (w : World) : grow w #[] = w := by simp [grow]
theorem reverseOwn_any (g c lo n : Nat) (zs : List Int) (w : World) (h : OwnI 3 w lo (some ⟨g, 0, none⟩) n c zs) (hn : n ≤ 1048576) :
    Calls Tryz.prog 46 #[.slice (some ⟨g, 0, none⟩) n c] w fun e w' => e = .returned (.tuple #[]) ∧ OwnI 3 w' lo (some ⟨g, 0, none⟩) n c zs.reverse ∧ w.grownBy w' (some g) := by
  have hl := h.len
  subst hl
  obtain ⟨cur, hb, h1, h2, h3, h4⟩ := h.block
  refine (slices_Reverse_int g 0 c zs w (Own.holds h) (by omega)).mono ?_
  rintro e w' ⟨rfl, m, rfl⟩
  have hr := ownsRow_sortedI (base := lo) (n := m) (os := #[]) (ss := zs) (ts := zs.reverse) (by rw [List.length_reverse]) h1 hb h2 h3 h4
  have hg := grownBy_sortedI (w := w) (g := g) (n := m) (os := #[]) zs.reverse.toArray
  rw [grow_none] at hr hg
  exact ⟨rfl, hr, hg⟩

def posU (out : List Int) (n : Int) : Nat → Nat
  | 0 => 0
  | k + 1 => if n < out.getD k 0 then posU out n k else k + 1
theorem posU_le (out : List Int) (n : Int) (k : Nat) : posU out n k ≤ k := by
  induction k with
  | zero => exact Nat.le_refl _
  | succ k ih => unfold posU; split <;> omega
def insU (out : List Int) (n : Int) : List Int := out.take (posU out n out.length) ++ n :: out.drop (posU out n out.length)
def sortU (zs : List Int) : List Int := zs.foldl insU []
def negL (zs : List Int) : List Int := zs.map (fun z => -z)
theorem posU_neg (out : List Int) (n : Int) (k : Nat) : posU out n k = posD (negL out) (-n) k := by
  induction k with
  | zero => rfl
  | succ k ih =>
    unfold posU posD
    have : (negL out).getD k 0 = -(out.getD k 0) := by
      unfold negL
      rw [List.getD_eq_getElem?_getD, List.getD_eq_getElem?_getD, List.getElem?_map]
      cases out[k]? <;> simp
    rw [this, ih]
    by_cases h : n < out.getD k 0
    · rw [if_pos h, if_pos (by omega)]
    · rw [if_neg h, if_neg (by omega)]
theorem insU_neg (out : List Int) (n : Int) : negL (insU out n) = insD (negL out) (-n) := by
  unfold insU insD
  rw [posU_neg, show (negL out).length = out.length by simp [negL]]
  simp [negL]
theorem negL_neg (zs : List Int) : negL (negL zs) = zs := by
  simp [negL, List.map_map, Function.comp_def]
theorem sortU_neg (zs : List Int) : negL (sortU zs) = sortD (negL zs) := by
  unfold sortU sortD
  have : ∀ (zs out : List Int), negL (zs.foldl insU out) = (negL zs).foldl insD (negL out) := by
    intro zs
    induction zs with
    | nil => intro out; rfl
    | cons z t ih =>
      intro out
      rw [List.foldl_cons, ih, insU_neg]
      rfl
  exact this zs []
theorem sortU_eq (zs : List Int) : sortU zs = (sortD zs).reverse := by
  have h1 : (sortU zs).Pairwise (fun x y => x ≤ y) := by
    rw [← negL_neg (sortU zs), sortU_neg]
    unfold negL
    rw [List.pairwise_map]
    exact (sortD_sorted _).imp (by intro a b h; simp at h ⊢; omega)
  have h2 : (sortD zs).reverse.Pairwise (fun x y => x ≤ y) := by
    rw [List.pairwise_reverse]
    exact (sortD_sorted zs).imp (by simp)
  have h3 : (sortU zs).Perm (sortD zs).reverse := by
    have : (sortU zs).Perm zs := by
      rw [← negL_neg (sortU zs), sortU_neg]
      have h := (sortD_perm (negL zs)).map (fun z => -z)
      exact h.trans (by show (negL (negL zs)).Perm zs; rw [negL_neg])
    exact this.trans ((sortD_perm zs).symm.trans (List.reverse_perm _).symm)
  exact h3.eq_of_pairwise (fun a b _ _ h1 h2 => by omega) h1 h2
theorem sortU_len (zs : List Int) : (sortU zs).length = zs.length := by rw [sortU_eq, List.length_reverse, sortD_len]
theorem sortU_take_succ (zs : List Int) (k : Nat) (h : k < zs.length) : sortU (zs.take (k + 1)) = insU (sortU (zs.take k)) (zs.getD k 0) := by
  unfold sortU
  rw [take_succ_getD k h, List.foldl_append]
  rfl
end Go.Proofs.YtijgndfhfggipaaGreat

/- The reference's list in increasing order. -/
namespace Go.Proofs.YtijgndfhfggipaaGreat
open Go.RowKit Go.Sort
set_option linter.unusedVariables false

theorem Sl.ext' {w w' : World} {B n : Nat} {A : Option Addr} {vs : List Value} (h : Sl w B A n vs) (x : Ext w w') (hB : B ≤ w.heap.size := by (first | exact Nat.le_refl _ | simp <;> omega)) : Sl w' B A n vs := h.keep fun p hp => x.cell (by omega)
theorem Sl.take_ext {w w' : World} {n k : Nat} {A : Option Addr} {zs : List Int} (h : SlI w w.heap.size A n zs) (hk : k ≤ n) (x : Ext w w') : SlI w' w.heap.size A k (zs.take k) := by
  have h2 := Sl.cutTo (k := k) h hk
  rw [← List.map_take] at h2
  exact SlI.ext h2 x (Nat.le_refl _)
end Go.Proofs.YtijgndfhfggipaaGreat

/- PlanBound. -/
namespace Go.Proofs.YtijgndfhfggipaaGreat
open Go.RowKit Go.Sort
set_option linter.unusedVariables false

theorem i.isCount_any (z : Int) (w : World) : Calls Tryz.prog 44 #[.int .i64 z] w fun e w' => e = .returned (.bool (inB 1 14 z)) ∧ w = w' := by
  go_enter Tryz.func44, Tryz.ntmps44
  go_wp2_with (go_at_call 31; refine (i.within_any _ _ _ _).mono ?_; rintro e w' ⟨rfl, rfl⟩)
  go_ret
  exact ⟨rfl, rfl⟩
def askB (d : CoD) (n : Int) : Bool := codeB d && inB 1 14 n
theorem inB_ok {lo hi n : Int} (h : inB lo hi n = true) : lo ≤ n ∧ n ≤ hi := by
  simpa only [inB, Bool.and_eq_true, decide_eq_true_eq] using h
theorem own_snoc {e : TypeId} {w : World} {lo m c : Nat} {A : Option Addr} {zs : List Int} {z : Int} (h : Own e w lo A (m + 1) c (zs.map (Value.int .i64) ++ [.int .i64 z])) : OwnI e w lo A (m + 1) c (zs ++ [z]) := own_conv h (Nat.le_refl _) rfl (by rw [List.map_append]; rfl)
theorem repl_snoc (zs : List Int) (j : Nat) (z : Int) : (zs ++ List.replicate j z) ++ [z] = zs ++ List.replicate (j + 1) z := by rw [List.append_assoc, List.replicate_succ']

set_option maxRecDepth 100000 in
set_option maxHeartbeats 4000000 in
theorem i.PlanBound_law (w : World) (v : Value) (d : CoD) (n : Int) (h : kC.rd w v d) (hok : kC.ok d) (_hn : InR n) :
    Calls Tryz.prog 15 #[v, .int .i64 n] w fun e w' => e = .returned (.tuple #[.int .i64 (planF d n).1, .bool (planF d n).2]) ∧ Ext w w' := by
  obtain ⟨Ac, cc, Al, cl, rfl, hle, _⟩ := kC.lr h
  obtain ⟨F, hF⟩ : ∃ F, Hid (planF d n = F) := ⟨_, rfl⟩
  rw [hF.out]
  obtain ⟨nc, NC⟩ : ∃ z, Hid (d.1.length = z) := ⟨_, rfl⟩
  obtain ⟨nl, NL⟩ : ∃ z, Hid (d.2.1.length = z) := ⟨_, rfl⟩
  obtain ⟨r, RN⟩ : ∃ z, Hid (d.2.2.1 = z) := ⟨_, rfl⟩
  obtain ⟨b, BN⟩ : ∃ z, Hid (d.2.2.2.1 = z) := ⟨_, rfl⟩
  obtain ⟨p, PN⟩ : ∃ z, Hid (d.2.2.2.2.1 = z) := ⟨_, rfl⟩
  obtain ⟨f, FN⟩ : ∃ z, Hid (d.2.2.2.2.2 = z) := ⟨_, rfl⟩
  rw [NC.out, NL.out, RN.out, BN.out, PN.out, FN.out] at h ⊢
  have HL := hide hle
  have a1 := hle.1; have a2 := hle.2.1
  rw [NC.out] at a1
  obtain ⟨W0, hW0⟩ : ∃ W0, Hid (W0 = w.alloc (.cells #[.slice Ac nc cc, .slice Al nl cl, .int .i64 r, .int .i64 b, .int .i64 p, .int .i64 f] 26)) := ⟨_, rfl⟩
  have X0 : Hid (Ext w W0) := by rw [hW0.out]; exact Ext.alloc w _
  have B0 : Hid (Blk W0 w.heap.size #[.slice Ac nc cc, .slice Al nl cl, .int .i64 r, .int .i64 b, .int .i64 p, .int .i64 f] 26) := by rw [hW0.out]; exact Blk.new rfl _ _
  have CQ := hide (i.IsCode_m W0 _ d (kC.rd_ext h X0.out) hok)
  clear h hle hok
  go_enter Tryz.func15, Tryz.ntmps15
  go_wp2_with fail
  rw [← hW0.out]
  clear hW0
  refine CQ.out.mono ?_
  rintro e w1 ⟨rfl, x1⟩
  have X1 := hide (X0.out.trans x1)
  have B1 := hide (B0.out.ext x1)
  clear x1 CQ X0 B0
  cases hc : codeB d
  · have HF : Hid (F = (0, false)) := by show _ = _; rw [← hF.out]; simp [planF, hc]
    clear hc
    go_wp2
    go_ret2
    rw [HF.out]
    exact ⟨rfl, X1.out⟩
  have HC := hide (codeB_ok hc)
  cases hi : inB 1 14 n
  · have HF : Hid (F = (0, false)) := by show _ = _; rw [← hF.out]; simp [planF, hi]
    have HI := hide hi
    clear hc hi
    go_wp2_with (go_at_call 44; refine (i.isCount_any _ _).mono ?_; rintro e w' ⟨rfl, rfl⟩; rw [HI.out])
    go_ret2
    rw [HF.out]
    exact ⟨rfl, X1.out⟩
  have HF : Hid (F = ((planS d n * (100 + b) + 99) / 100 + n, true)) := by show _ = _; rw [← hF.out, ← BN.out]; simp [planF, hc, hi]
  have HI := hide hi
  have hb := inB_ok hi
  have n1 := hb.1; have n2 := hb.2
  clear hc hi hb hF
  have h24 := HC.out.n2
  have h1c := HC.out.n1
  have hr := HC.out.rep
  have hbo := HC.out.bon
  rw [NC.out] at h24 h1c
  rw [RN.out] at hr
  rw [BN.out] at hbo
  obtain ⟨rN, hrN⟩ : ∃ rN : Nat, r = rN := ⟨r.toNat, by omega⟩
  subst hrN
  have r1 : 1 ≤ rN := by omega
  have r3 : rN ≤ 3 := by omega
  have hb0 := hbo.1; have hb1 := hbo.2
  clear hr hbo
  have BK := hide (fun k (hk : k ≤ nc) => show (basK d.1 rN k).length ≤ 72 by rw [basK_len _ _ _ (by rw [NC.out]; exact hk)]; exact Nat.le_trans (Nat.mul_le_mul (show k ≤ 24 by omega) r3) (by decide))
  have z1 := X1.out.size
  have XA := hide (X1.out.trans (Ext.alloc w1 (.cells #[] 3)))
  have BA := hide (B1.out.alloc (.cells #[] 3))
  have OA : Hid (OwnI 3 (w1.alloc (.cells #[] 3)) w1.heap.size (some ⟨w1.heap.size, 0, none⟩) 0 0 (basK d.1 rN 0)) := Own.empty w1 3 (Nat.le_refl _)
  have YA := hide (Ext.alloc w1 (.cells #[] 3))
  have cB := BA.out.cell
  go_wp2_with (go_at_call 44; refine (i.isCount_any _ _).mono ?_; rintro e w' ⟨rfl, rfl⟩; rw [HI.out])
  clear cB BA XA
  go_loopw [6, 22] (fun o i0 wr => ∃ (k m : Nat) (A' : Option Addr) (c' : Nat), k ≤ nc ∧ i0 = .int .i64 k ∧ o = .slice A' m c' ∧ OwnI 3 wr w1.heap.size A' m c' (basK d.1 rN k) ∧ Ext w1 wr) (fun _ i0 _ => nc - (intOf i0).toNat)
  case atStart => exact ⟨0, 0, _, _, Nat.zero_le _, rfl, rfl, OA.out, YA.out⟩
  case round =>
    obtain ⟨k, m, A', c', hk, rfl, rfl, hown, hx⟩ := hrel
    have HO := hide hown
    have HX := hide hx
    have oc1 := hown.capn; have oc2 := hown.capm
    clear hown hx OA YA
    have m72 : m ≤ 72 := by have h8 := BK.out k hk; rw [HO.out.len] at h8; exact h8
    obtain ⟨wo, rfl⟩ : ∃ wo : World, wo = wr := ⟨_, rfl⟩
    by_cases hlt : k < nc
    · obtain ⟨x, hxk⟩ : ∃ x, Hid (d.1[k]? = some x) := get_ex d.1 k (by rw [NC.out]; exact hlt)
      obtain ⟨bb, off, rfl, hbb, q0, q1, q2, q3, _⟩ := (HL.out.ext (X1.out.trans HX.out) (Nat.le_refl _)).element k x hxk.out
      have BS := hide (basK_succ (r := rN) hxk.out)
      have BKs := BK.out (k + 1) (by omega)
      rw [BS.out, List.length_append, HO.out.len, List.length_replicate] at BKs
      obtain ⟨W1, hW1⟩ : ∃ W1, Hid (W1 = wo.alloc (.cells #[.string (bs x.1), .int .i64 x.2.1, .int .i64 x.2.2.1, .int .i64 x.2.2.2] 44)) := ⟨_, rfl⟩
      have XW : Hid (Ext wo W1) := by rw [hW1.out]; exact Ext.alloc _ _
      have BW : Hid (Blk W1 wo.heap.size #[.string (bs x.1), .int .i64 x.2.1, .int .i64 x.2.2.1, .int .i64 x.2.2.2] 44) := by rw [hW1.out]; exact Blk.new rfl _ _
      have B2 := hide ((B1.out.ext HX.out).ext XW.out)
      have O2 : Hid (OwnI 3 W1 w1.heap.size A' m c' (basK d.1 rN k ++ List.replicate 0 (baseE x))) := by
        show OwnI _ _ _ _ _ _ _
        rw [List.replicate_zero, List.append_nil]
        exact HO.out.below XW.out (Nat.le_refl _)
      have zo := HX.out.size
      have zw := XW.out.size
      have BE : Hid (baseE x = x.2.2.2) := rfl
      rw [BE.out] at BS O2
      have Y2 := hide (HX.out.trans XW.out)
      have NE : Hid (∀ p, A' = some p → p.block ≠ wo.heap.size) := fun p hp => by
        rcases OwnI.form HO.out with ⟨h, _⟩ | ⟨g, h, _, h2, _⟩
        · rw [h] at hp; cases hp
        · rw [h] at hp; injection hp with hp; subst hp; simp; omega
      generalize bs x.1 = x0 at *
      generalize x.2.1 = x1 at *
      generalize x.2.2.1 = x2 at *
      generalize x.2.2.2 = Z at *
      have cB := B2.out.cell
      rw [hW1.out] at cB
      go_wp2
      rw [← hW1.out]
      clear hW1 q0 q1 q2 q3 cB
      go_loopw [6, 28] (fun o i0 wr => ∃ (j m' : Nat) (A9 : Option Addr) (c9 : Nat), j ≤ rN ∧ m' = m + j ∧ i0 = .int .i64 j ∧ o = .slice A9 m' c9 ∧ OwnI 3 wr w1.heap.size A9 m' c9 (basK d.1 rN k ++ List.replicate j Z) ∧ Blk wr wo.heap.size #[.string x0, .int .i64 x1, .int .i64 x2, .int .i64 Z] 44 ∧ (∀ p, A9 = some p → p.block ≠ wo.heap.size) ∧ Ext w1 wr) (fun _ i0 _ => rN - (intOf i0).toNat)
      case atStart => exact ⟨0, m, _, _, Nat.zero_le _, rfl, rfl, rfl, O2.out, BW.out, NE.out, Y2.out⟩
      case round =>
        obtain ⟨j, m', A9, c9, hj, hm', rfl, rfl, hown, hbw, hne, hx⟩ := hrel
        have HM : m' ≤ m + j := by omega
        have HM' := hide hm'
        have HO9 := hide hown
        have HX9 := hide hx
        have od1 := hown.capn; have od2 := hown.capm
        have BW9 := hide hbw
        have NE9 := hide hne
        clear hown hx O2 Y2 hm' hbw hne
        by_cases hlj : j < rN
        · have cW := BW9.out.cell
          have z9 := HX9.out.size
          have z8 := BW9.out.lt
          obtain ⟨L, hL⟩ : ∃ L, Hid (basK d.1 rN k ++ List.replicate j Z = L) := ⟨_, rfl⟩
          rw [hL.out] at HO9
          go_wp2_with (at_builtin; refine wpList_append_sl rfl (.tmp 30) (.tmp 33) rfl elem_int rfl rfl (lo := w1.heap.size) (Own.alloc HO9.out (.cells #[.int .i64 Z] 3)) (Sl.one wr (.int .i64 Z) 3) (one_int _) ?c1 ?c2 ?c3 ?_)
          case c1 => omega
          case c2 => omega
          case c3 => simp; omega
          intro A8 c8 w8 hap
          have Y8 := hide (hap.ext (HX9.out.trans (Ext.alloc wr _)) (Own.fromLo HO9.out))
          have BW8 := hide ((BW9.out.alloc (.cells #[.int .i64 Z] 3)).tchF (fp := (A9.map (·.block)).toList) (TchF.of_grown hap.grew (fun p hp => by rw [hp]; simp)) (fun hm => by obtain ⟨p, hp, he⟩ := mem_of_opt hm; exact NE9.out p hp he))
          have NE8 : Hid (∀ p, A8 = some p → p.block ≠ wo.heap.size) := fun p hp => by
            have h8 := hap.where_
            rw [hp] at h8
            rcases h8 with h8 | h8
            · cases hA : A9 with
              | none => rw [hA] at h8; cases h8
              | some q => rw [hA] at h8; simp at h8; rw [h8]; exact NE9.out q hA
            · simp at h8; omega
          have HAP := hide hap
          clear hap cW
          go_wp2
          go_roundw
          case rel => exact ⟨j + 1, m' + 1, A8, c8, by omega, by have := HM'.out; omega, by go_num, rfl, by rw [← repl_snoc, hL.out]; exact own_snoc HAP.out.own, BW8.out, NE8.out, Y8.out⟩
          case measure => simp [intOf]; omega
        · have ej : rN = j := by omega
          subst ej
          go_wp2
          go_roundw
          case rel => exact ⟨k + 1, m', A9, c9, by omega, by go_num, rfl, by rw [BS.out]; exact HO9.out, HX9.out⟩
          case measure => simp [intOf]; omega
    · have ek : nc = k := by omega
      subst ek
      have BL : Hid (basL d = basK d.1 rN nc) := by show _ = _; unfold basL; rw [RN.out, NC.out, Int.toNat_natCast]
      have m1 : 0 < m := by
        rw [← HO.out.len, basK_len _ _ _ (by rw [NC.out]; exact Nat.le_refl _)]
        exact Nat.mul_pos (by omega) (by omega)
      obtain ⟨g, rfl, hg1, hg2, _⟩ := OwnI.pos HO.out m1
      have BD := basK_bd HC.out rN nc
      rw [← BL.out] at BD HO
      have XO := hide (X1.out.trans HX.out)
      have BO := hide (B1.out.ext HX.out)
      have zo := HX.out.size
      have SO := hide (sortOwn_any g c' w1.heap.size m _ wo HO.out (by omega))
      go_wp2_with fail
      refine SO.out.mono ?_
      rintro e w2 ⟨rfl, o2, g2⟩
      have x2 : Ext w1 w2 := below_grown (A := some ⟨g, 0, none⟩) HX.out g2 (by omega) (fun p hp => by injection hp with hp; subst hp; exact hg1)
      have RO := hide (reverseOwn_any g c' w1.heap.size m _ w2 o2 (by omega))
      have X2 := hide x2
      clear x2 o2 g2 SO
      go_wp2_with fail
      refine RO.out.mono ?_
      rintro e w3 ⟨rfl, o3, g3⟩
      have z2 := X2.out.size
      have x3 : Ext w1 w3 := below_grown (A := some ⟨g, 0, none⟩) X2.out g3 (by omega) (fun p hp => by injection hp with hp; subst hp; exact hg1)
      rw [List.reverse_reverse] at o3
      have X3 := hide x3
      have B3 := hide (B1.out.ext x3)
      obtain ⟨q, hq⟩ : ∃ q : Nat, min (n + 4) (m : Int) = q := ⟨(min (n + 4) (m : Int)).toNat, by omega⟩
      have hqm : q ≤ m := by omega
      have hqn : (q : Int) ≤ n + 4 := by omega
      have SLQ : Sl w3 w3.heap.size (some ⟨g, 0, none⟩) q ((sortD (basL d)).take q |>.map (Value.int .i64)) := by
        have h8 := Sl.cutTo (k := q) o3.sl hqm
        rwa [← List.map_take] at h8
      have SMq : ∀ z ∈ (sortD (basL d)).take q, 0 ≤ z ∧ z ≤ 2000 := fun z hz => BD z ((sortD_perm _).mem_iff.1 (List.mem_of_mem_take hz))
      have SUM := hide (i.sumInts_any (some ⟨g, 0, none⟩) q c' w3.heap.size _ w3 SLQ (by omega) (small_of SMq))
      have PS : Hid (((sortD (basL d)).take q).sum = planS d n) := by
        show _ = _
        have hl : (sortD (basL d)).length = m := by rw [sortD_len]; exact HO.out.len
        unfold planS topS
        by_cases h9 : n + 4 ≤ (m : Int)
        · rw [show (n + 4).toNat = q by omega]
        · rw [List.take_of_length_le (by omega), List.take_of_length_le (by omega)]
      have sb := take_bd SMq
      rw [List.length_take, PS.out] at sb
      rw [PS.out] at SUM
      generalize planS d n = Sk at *
      have h0 : 0 ≤ Sk * (100 + b) := Int.mul_nonneg (by omega) (by omega)
      have h1 : Sk * (100 + b) ≤ Sk * 120 := Int.mul_le_mul_of_nonneg_left (by omega) (by omega)
      have h2 : Sk * (100 + b) ≤ 100000000 := by omega
      clear h1 x3 o3 g3 RO SLQ SMq BD
      have cB := B3.out.cell
      have HQ := hide hq
      have q0 : 0 ≤ min (n + 4) (m : Int) := by omega
      have q1 : min (n + 4) (m : Int) ≤ (c' : Int) := by omega
      have q2 : (min (n + 4) (m : Int)).toNat = q := by omega
      clear hq
      go_wp2_with (go_at_call 40; refine SUM.out.mono ?_; rintro e w4 ⟨rfl, rfl⟩)
      go_ret2
      rw [HF.out]
      exact ⟨rfl, X1.out.trans X3.out⟩
theorem tailS_bd {ys : List Int} (h : ∀ z ∈ ys, 0 ≤ z ∧ z ≤ 2000) (m k : Nat) : 0 ≤ tailS ys m k ∧ tailS ys m k ≤ 2000 * (ys.length : Int) := by
  unfold tailS
  have h1 := take_bd (l := (ys.take k).drop (ys.length - m)) (fun z hz => h z (List.mem_of_mem_take (List.mem_of_mem_drop hz)))
  have h2 : ((ys.take k).drop (ys.length - m)).length ≤ ys.length := by simp; omega
  omega
end Go.Proofs.YtijgndfhfggipaaGreat

/- How many elements each family has; MostSingles by the program. -/
namespace Go.Proofs.YtijgndfhfggipaaGreat
open Go.RowKit Go.Sort
set_option linter.unusedVariables false

def famE (d : CoD) (i : Nat) : Nat := (d.1.getD i noEl).2.1.toNat
def limE (d : CoD) (f : Nat) : Nat := (d.2.1.getD f 0).toNat
def basE (d : CoD) (i : Nat) : Int := (d.1.getD i noEl).2.2.2
theorem famE_eq {d : CoD} {i : Nat} {x : ElD} (h : d.1[i]? = some x) : famE d i = x.2.1.toNat := by unfold famE; rw [getD_some h]
theorem basE_eq {d : CoD} {i : Nat} {x : ElD} (h : d.1[i]? = some x) : basE d i = x.2.2.2 := by unfold basE; rw [getD_some h]
theorem famE_lt {d : CoD} (hd : CodeOk d) (i : Nat) : famE d i < 5 := by
  unfold famE
  cases hx : d.1[i]? with
  | none => rw [List.getD_eq_getElem?_getD, hx]; decide
  | some y => rw [getD_some hx]; have := elB_ok (hd.els _ _ hx); omega
theorem limE_eq {d : CoD} (hd : CodeOk d) {f : Nat} (hf : f < 5) : (limE d f : Int) = d.2.1.getD f 0 ∧ 0 ≤ d.2.1.getD f 0 ∧ d.2.1.getD f 0 ≤ 9 := by
  have hl := hd.lim
  have hm : d.2.1.getD f 0 ∈ d.2.1 := by
    rw [List.getD_eq_getElem?_getD, List.getElem?_eq_getElem (by omega)]
    exact List.getElem_mem _
  have := hd.limb _ hm
  unfold limE
  omega
/-- How many of the first k elements each family has. -/
def szA (d : CoD) (k f : Nat) : Int := (cntF (famE d) f (List.range k) : Nat)
def szL (d : CoD) (k : Nat) : List Int := (List.range 5).map (szA d k)
theorem szL_len (d : CoD) (k : Nat) : (szL d k).length = 5 := by simp [szL]
theorem szL_at (d : CoD) (k : Nat) {f : Nat} (hf : f < 5) : (szL d k).getD f 0 = szA d k f := by
  unfold szL
  rw [List.getD_eq_getElem?_getD, List.getElem?_map, List.getElem?_range hf]
  rfl
theorem szA_bd (d : CoD) (k f : Nat) : 0 ≤ szA d k f ∧ szA d k f ≤ k := by
  unfold szA cntF
  have := List.length_filter_le (fun i => famE d i == f) (List.range k)
  rw [List.length_range] at this
  omega
theorem szA_succ (d : CoD) (k f : Nat) : szA d (k + 1) f = szA d k f + (if famE d k = f then 1 else 0) := by
  unfold szA
  rw [List.range_succ, cntF_snoc]
  split <;> simp
theorem szL_zero (d : CoD) : szL d 0 = List.replicate 5 0 := rfl
theorem szL_succ {d : CoD} {k f : Nat} (h : famE d k = f) (hf : f < 5) : szL d (k + 1) = (szL d k).set f (szA d k f + 1) := by
  apply List.ext_getElem?
  intro i
  rw [List.getElem?_set, szL_len]
  unfold szL
  rw [List.getElem?_map, List.getElem?_map]
  by_cases hi : i < 5
  · rw [List.getElem?_range hi]
    simp only [Option.map_some]
    by_cases hk : f = i
    · subst hk
      rw [if_pos rfl, if_pos hf, szA_succ, if_pos h]
    · rw [if_neg hk, szA_succ, if_neg (by omega)]
      simp
  · rw [List.getElem?_eq_none (l := List.range 5) (by simp; omega)]
    rw [if_neg (by omega)]
    rfl

end Go.Proofs.YtijgndfhfggipaaGreat

/- MostSingles by the program. -/
namespace Go.Proofs.YtijgndfhfggipaaGreat
open Go.RowKit Go.Sort
set_option linter.unusedVariables false

def fitE (d : CoD) (f : Nat) : Nat := min (cntF (famE d) f (List.range d.1.length)) (limE d f)
def singF (d : CoD) : Int × Bool := if codeB d then (((min 14 (totF (fitE d)) : Nat) : Int), true) else (0, false)
def mostS (d : CoD) : Nat → Int
  | 0 => 0
  | f + 1 => mostS d f + min (szA d d.1.length f) (d.2.1.getD f 0)
theorem mostS_succ (d : CoD) (f : Nat) : mostS d (f + 1) = mostS d f + min (szA d d.1.length f) (d.2.1.getD f 0) := rfl
theorem mostS_tot {d : CoD} (hd : CodeOk d) : mostS d 5 = (totF (fitE d) : Nat) := by
  have h0 := (limE_eq hd (show 0 < 5 by decide)).1
  have h1 := (limE_eq hd (show 1 < 5 by decide)).1
  have h2 := (limE_eq hd (show 2 < 5 by decide)).1
  have h3 := (limE_eq hd (show 3 < 5 by decide)).1
  have h4 := (limE_eq hd (show 4 < 5 by decide)).1
  unfold totF fitE
  simp only [mostS, szA]
  omega
theorem mostS_bd {d : CoD} (hd : CodeOk d) (f : Nat) (hf : f ≤ 5) : 0 ≤ mostS d f ∧ mostS d f ≤ 9 * f := by
  induction f with
  | zero => exact ⟨Int.le_refl _, Int.le_refl _⟩
  | succ f ih =>
    have := ih (by omega)
    have h1 := (limE_eq hd (show f < 5 by omega)).2
    have h2 := szA_bd d d.1.length f
    rw [mostS_succ]
    omega

end Go.Proofs.YtijgndfhfggipaaGreat

/- The greedy choice of the reference; MostSingles. -/
namespace Go.Proofs.YtijgndfhfggipaaGreat
open Go.RowKit Go.Sort
set_option linter.unusedVariables false

def intL (l : List Nat) : List Int := l.map (fun (i : Nat) => (i : Int))
theorem intL_len (l : List Nat) : (intL l).length = l.length := by simp [intL]
theorem intL_has (l : List Nat) (k : Nat) : (intL l).any (fun z => z == (k : Int)) = decide (k ∈ l) := by
  rw [Bool.eq_iff_iff, List.any_eq_true, decide_eq_true_eq]
  unfold intL
  constructor
  · rintro ⟨z, hz, h⟩
    obtain ⟨i, hi, rfl⟩ := List.mem_map.1 hz
    have : (i : Int) = k := by simpa using h
    have : i = k := by omega
    exact this ▸ hi
  · intro h
    exact ⟨(k : Int), List.mem_map.2 ⟨k, h, rfl⟩, by simp⟩
theorem Own.keepBlk {e : TypeId} {w w' : World} {lo n c : Nat} {A : Option Addr} {vs : List Value} (h : Own e w lo A n c vs) (hk : ∀ p, A = some p → w'.heap[p.block]? = w.heap[p.block]?) : Own e w' lo A n c vs := by
  refine ⟨h.1, ?_⟩
  rcases h.2 with h | ⟨g, cap, cur, h, h1, h2, r⟩
  · exact .inl h
  · have ha := h
    simp only [Value.slice.injEq] at ha
    exact .inr ⟨g, cap, cur, h, h1, by have h9 := hk _ ha.1; rw [h9]; exact h2, r⟩
/-- The room that the families have left. -/
def rmL (d : CoD) (out : List Nat) : List Int := (List.range 5).map (roomF (famE d) (limE d) out)
theorem rmL_len (d : CoD) (out : List Nat) : (rmL d out).length = 5 := by simp [rmL]
theorem rmL_at (d : CoD) (out : List Nat) {f : Nat} (hf : f < 5) : (rmL d out).getD f 0 = roomF (famE d) (limE d) out f := by
  unfold rmL
  rw [List.getD_eq_getElem?_getD, List.getElem?_map, List.getElem?_range hf]
  rfl
theorem rmL_nil {d : CoD} (hd : CodeOk d) : d.2.1 = rmL d [] := by
  apply List.ext_getElem?
  intro i
  by_cases hi : i < 5
  · have h := (limE_eq hd hi).1
    have hl := hd.lim
    rw [List.getElem?_eq_getElem (by omega)]
    unfold rmL
    rw [List.getElem?_map, List.getElem?_range hi]
    simp only [Option.map_some, roomF, cntF]
    rw [h, List.getD_eq_getElem?_getD, List.getElem?_eq_getElem (by omega)]
    simp
  · rw [List.getElem?_eq_none (by have := hd.lim; omega), List.getElem?_eq_none (by rw [rmL_len]; omega)]
theorem rmL_snoc (d : CoD) (out : List Nat) {i f : Nat} (h : famE d i = f) (hf : f < 5) : rmL d (out ++ [i]) = (rmL d out).set f (roomF (famE d) (limE d) out f - 1) := by
  apply List.ext_getElem?
  intro j
  rw [List.getElem?_set, rmL_len]
  unfold rmL
  rw [List.getElem?_map, List.getElem?_map]
  by_cases hj : j < 5
  · rw [List.getElem?_range hj]
    simp only [Option.map_some, roomF]
    rw [cntF_snoc]
    by_cases hk : f = j
    · subst hk
      rw [if_pos rfl, if_pos hf, if_pos h]
      congr 1
      omega
    · rw [if_neg hk, if_neg (by omega)]
      simp
  · rw [List.getElem?_eq_none (l := List.range 5) (by simp; omega), if_neg (by omega)]
    rfl
def chF (d : CoD) (n : Nat) (q : Nat) (out : List Nat) : List Nat := choosF (famE d) (limE d) (basE d) d.1.length n q out
def pkF (d : CoD) (out : List Nat) (k : Nat) : Int := pickF (famE d) (limE d) (basE d) out k
def chosF (d : CoD) (n : Nat) : List Nat := chF d n n []
theorem pkF_lt (d : CoD) (out : List Nat) (k : Nat) : pkF d out k < k ∧ -1 ≤ pkF d out k := by
  rcases pickF_or (famE d) (limE d) (basE d) out k with h | ⟨i, hi, h, _⟩
  · unfold pkF; omega
  · unfold pkF; omega
theorem pkF_yes {d : CoD} {out : List Nat} {k : Nat} (h : 0 < roomF (famE d) (limE d) out (famE d k) ∧ k ∉ out ∧ (pkF d out k < 0 ∨ basE d (pkF d out k).toNat < basE d k)) : pkF d out (k + 1) = k := by
  unfold pkF at h ⊢
  rw [pickF, if_pos h]
theorem pkF_no {d : CoD} {out : List Nat} {k : Nat} (h : ¬ (0 < roomF (famE d) (limE d) out (famE d k) ∧ k ∉ out ∧ (pkF d out k < 0 ∨ basE d (pkF d out k).toNat < basE d k))) : pkF d out (k + 1) = pkF d out k := by
  unfold pkF at h ⊢
  rw [pickF, if_neg h]
theorem chF_stop {d : CoD} {n q : Nat} {out : List Nat} (h : ¬ out.length < n) : chF d n q out = out := by
  unfold chF
  cases q with
  | zero => rfl
  | succ q => rw [choosF, if_neg h]
theorem chF_none {d : CoD} {n q : Nat} {out : List Nat} (h : pkF d out d.1.length < 0) : chF d n q out = out := by
  unfold chF
  unfold pkF at h
  cases q with
  | zero => rfl
  | succ q =>
    rw [choosF]
    split
    all_goals first | rfl | rw [if_pos h]
theorem chF_next {d : CoD} {n q : Nat} {out : List Nat} (hl : out.length < n) (h : ¬ pkF d out d.1.length < 0) : chF d n (q + 1) out = chF d n q (out ++ [(pkF d out d.1.length).toNat]) := by
  unfold chF
  unfold pkF at h ⊢
  rw [choosF, if_pos hl, if_neg h]

theorem chos_len {d : CoD} (hd : CodeOk d) (n : Nat) : (chosF d n).length = min n (totF (fitE d)) := by
  unfold chosF chF fitE
  exact choosF_len (fun i _ => famE_lt hd i) n [] ⟨List.nodup_nil, by simp, fun f => by simp [cntF], by simp⟩ (by simp)
end Go.Proofs.YtijgndfhfggipaaGreat

/- Choices out of families counted: the plain law. -/
namespace Go.Proofs.YtijgndfhfggipaaGreat
open Go.RowKit Go.Sort
set_option linter.unusedVariables false

/-- In how many ways k of n things can be chosen. -/
def bin : Nat → Nat → Nat
  | _, 0 => 1
  | 0, _ + 1 => 0
  | n + 1, k + 1 => bin n k + bin n (k + 1)
theorem bin_zero (n : Nat) : bin n 0 = 1 := by cases n <;> rfl
theorem bin_nil (k : Nat) : bin 0 (k + 1) = 0 := rfl
theorem bin_succ (n k : Nat) : bin (n + 1) (k + 1) = bin n k + bin n (k + 1) := rfl
theorem bin_gt : ∀ (n k : Nat), n < k → bin n k = 0
  | n, 0, h => absurd h (by omega)
  | 0, k + 1, _ => rfl
  | n + 1, k + 1, h => by rw [bin_succ, bin_gt n k (by omega), bin_gt n (k + 1) (by omega)]
theorem bin_le : ∀ (n k : Nat), bin n k ≤ 2 ^ n
  | n, 0 => by rw [bin_zero]; exact Nat.one_le_two_pow
  | 0, k + 1 => by rw [bin_nil]; exact Nat.zero_le _
  | n + 1, k + 1 => by have := bin_le n k; have := bin_le n (k + 1); rw [bin_succ, Nat.pow_succ]; omega
theorem bin_step : ∀ (n k m : Nat), n = k + m → bin n (k + 1) * (k + 1) = bin n k * m
  | 0, k, m, h => by
    have hk : k = 0 := by omega
    have hm : m = 0 := by omega
    subst hk hm
    rfl
  | n + 1, 0, m, h => by
    have hm : m = n + 1 := by omega
    subst hm
    have h1 := bin_step n 0 n (by omega)
    rw [bin_zero] at h1 ⊢
    rw [bin_succ, bin_zero]
    simp at h1 ⊢
    omega
  | n + 1, k + 1, m, h => by
    have h1 := bin_step n k m (by omega)
    rw [bin_succ n (k + 1), bin_succ n k]
    cases m with
    | zero =>
      have e : n = k := by omega
      subst e
      rw [bin_gt n (n + 1) (by omega), bin_gt n (n + 1 + 1) (by omega)]
      simp
    | succ m =>
      have h2 := bin_step n (k + 1) m (by omega)
      rw [Nat.add_mul, Nat.add_mul, Nat.mul_succ (bin n (k + 1)) (k + 1), h1, h2, Nat.mul_succ (bin n (k + 1)) m]
      omega
/-- The quotient that the program takes is whole. -/
theorem bin_quo {n k : Nat} (h : k < n) : (bin n k : Int) * ((n : Int) - k) / ((k : Int) + 1) = (bin n (k + 1) : Nat) := by
  have h1 := bin_step n k (n - k) (by omega)
  have h2 : (bin n k : Int) * ((n : Int) - k) = (bin n (k + 1) : Nat) * ((k : Int) + 1) := by
    have h3 : ((bin n (k + 1) * (k + 1) : Nat) : Int) = ((bin n k * (n - k) : Nat) : Int) := by rw [h1]
    rw [Int.natCast_mul, Int.natCast_mul] at h3
    rw [show ((n - k : Nat) : Int) = (n : Int) - k by omega] at h3
    rw [← h3]
    rfl
  rw [h2, Int.mul_ediv_cancel _ (by omega)]
def sumTo (g : Nat → Nat) : Nat → Nat
  | 0 => 0
  | m + 1 => sumTo g m + g m
theorem sumTo_le {g : Nat → Nat} {B : Nat} (m : Nat) (h : ∀ i, i < m → g i ≤ B) : sumTo g m ≤ m * B := by
  induction m with
  | zero => simp [sumTo]
  | succ m ih =>
    have h1 := ih (fun i hi => h i (by omega))
    have h2 := h m (by omega)
    rw [sumTo, Nat.add_mul]
    omega
theorem sumTo_mono {g g' : Nat → Nat} (m : Nat) (h : ∀ i, i < m → g i ≤ g' i) : sumTo g m ≤ sumTo g' m := by
  induction m with
  | zero => exact Nat.le_refl _
  | succ m ih =>
    have h1 := ih (fun i hi => h i (by omega))
    have h2 := h m (by omega)
    rw [sumTo, sumTo]
    omega
theorem sumTo_congr {g g' : Nat → Nat} (m : Nat) (h : ∀ i, i < m → g i = g' i) : sumTo g m = sumTo g' m :=
  Nat.le_antisymm (sumTo_mono m fun i hi => Nat.le_of_eq (h i hi)) (sumTo_mono m fun i hi => Nat.le_of_eq (h i hi).symm)
theorem sumTo_add (g g' : Nat → Nat) (m : Nat) : sumTo (fun i => g i + g' i) m = sumTo g m + sumTo g' m := by
  induction m with
  | zero => rfl
  | succ m ih => rw [sumTo, sumTo, sumTo, ih]; omega
theorem sumTo_mul (g : Nat → Nat) (c m : Nat) : sumTo (fun i => c * g i) m = c * sumTo g m := by
  induction m with
  | zero => simp [sumTo]
  | succ m ih => rw [sumTo, sumTo, ih, Nat.mul_add]
theorem sumTo_first (g : Nat → Nat) (m : Nat) : sumTo g (m + 1) = g 0 + sumTo (fun i => g (i + 1)) m := by
  induction m with
  | zero => simp [sumTo]
  | succ m ih => rw [sumTo, ih, sumTo]; omega
theorem sumTo_cut (g : Nat → Nat) (m m' : Nat) (hm : m ≤ m') (h : ∀ i, m ≤ i → i < m' → g i = 0) : sumTo g m' = sumTo g m := by
  induction m' with
  | zero =>
    have : m = 0 := by omega
    subst this; rfl
  | succ m' ih =>
    by_cases e : m = m' + 1
    · rw [e]
    · rw [sumTo, ih (by omega) (fun i h1 h2 => h i h1 (by omega)), h m' (by omega) (by omega)]
      rfl
theorem sumTo_rev (g : Nat → Nat) (m : Nat) : sumTo g (m + 1) = sumTo (fun i => g (m - i)) (m + 1) := by
  induction m generalizing g with
  | zero => rfl
  | succ m ih =>
    rw [sumTo_first (fun i => g (m + 1 - i)) (m + 1), sumTo]
    have h1 : sumTo (fun i => g (m + 1 - (i + 1))) (m + 1) = sumTo g (m + 1) := by
      rw [ih g]
      exact sumTo_congr _ (fun i hi => by rw [show m + 1 - (i + 1) = m - i by omega])
    rw [h1]
    simp
    omega
theorem sumTo_bin (s m : Nat) : sumTo (bin s) m ≤ 2 ^ s := by
  induction s generalizing m with
  | zero =>
    cases m with
    | zero => simp [sumTo]
    | succ m =>
      rw [sumTo_first]
      have : sumTo (fun i => bin 0 (i + 1)) m = sumTo (fun _ => 0) m := sumTo_congr _ (fun i _ => rfl)
      rw [this]
      have h2 := sumTo_le (g := fun _ => 0) (B := 0) m (fun _ _ => Nat.le_refl _)
      rw [bin_zero]
      simp at h2 ⊢
      omega
  | succ s ih =>
    cases m with
    | zero => simp [sumTo]
    | succ m =>
      rw [sumTo_first]
      have : sumTo (fun i => bin (s + 1) (i + 1)) m = sumTo (fun i => bin s i + bin s (i + 1)) m := sumTo_congr _ (fun i _ => rfl)
      rw [this, sumTo_add]
      have h1 := ih m
      have h2 := ih (m + 1)
      rw [sumTo_first] at h2
      rw [bin_zero] at h2 ⊢
      rw [Nat.pow_succ]
      omega
/-- The choices of x out of the families so far and one more: s things, l of them at most. -/
def conv (ways : Nat → Nat) (s l x : Nat) : Nat := sumTo (fun j => ways (x - j) * bin s j) (min x l + 1)
def wayN (sz lm : Nat → Nat) : Nat → Nat → Nat
  | 0, x => if x = 0 then 1 else 0
  | f + 1, x => conv (wayN sz lm f) (sz f) (lm f) x
theorem conv_le {ways : Nat → Nat} {B : Nat} (s l x m : Nat) (h : ∀ i, ways i ≤ B) : sumTo (fun j => ways (x - j) * bin s j) m ≤ B * 2 ^ s := by
  have h1 : sumTo (fun j => ways (x - j) * bin s j) m ≤ sumTo (fun j => B * bin s j) m := sumTo_mono m (fun i _ => Nat.mul_le_mul_right _ (h _))
  rw [sumTo_mul] at h1
  exact Nat.le_trans h1 (Nat.mul_le_mul_left _ (sumTo_bin s m))
theorem wayN_le (sz lm : Nat → Nat) (f x : Nat) : wayN sz lm f x ≤ 2 ^ sumTo sz f := by
  induction f generalizing x with
  | zero => unfold wayN; split <;> simp [sumTo]
  | succ f ih =>
    rw [sumTo, Nat.pow_add]
    exact conv_le _ (lm f) _ _ ih
/-- What one round of the program adds to the choices of x. -/
def addW (ways : Nat → Nat) (s l n h x : Nat) : Nat := if h ≤ x ∧ x - h ≤ min (min s l) (n - h) then ways h * bin s (x - h) else 0
theorem conv_eq (ways : Nat → Nat) (s l n x : Nat) (hx : x ≤ n) : sumTo (fun h => addW ways s l n h x) (n + 1) = conv ways s l x := by
  rw [sumTo_cut (fun h => addW ways s l n h x) (x + 1) (n + 1) (by omega) (fun i h1 h2 => by unfold addW; rw [if_neg (by omega)])]
  rw [sumTo_rev]
  unfold conv
  rw [sumTo_cut (fun j => addW ways s l n (x - j) x) (min x l + 1) (x + 1) (by omega) (fun i h1 h2 => by unfold addW; rw [if_neg (by omega)])]
  refine sumTo_congr _ (fun j hj => ?_)
  unfold addW
  rw [show x - (x - j) = j by omega]
  by_cases hs : j ≤ s
  · rw [if_pos (by omega)]
  · rw [if_neg (by omega), bin_gt s j (by omega)]
    rfl
theorem addW_le {ways : Nat → Nat} {B : Nat} (s l n h x : Nat) (hw : ∀ i, ways i ≤ B) : addW ways s l n h x ≤ B * 2 ^ s := by
  unfold addW
  split
  · exact Nat.mul_le_mul (hw _) (bin_le _ _)
  · exact Nat.zero_le _
/-- How many elements the family f has. -/
def szE (d : CoD) (f : Nat) : Nat := cntF (famE d) f (List.range d.1.length)
def cntW (d : CoD) (f x : Nat) : Nat := wayN (szE d) (limE d) f x
def countF (d : CoD) (n : Int) : Int × Bool := if codeB d && inB 1 14 n then (((cntW d 5 n.toNat : Nat) : Int), true) else (0, false)
theorem szE_sum {d : CoD} (hd : CodeOk d) : sumTo (szE d) 5 ≤ 24 := by
  have h := len_totF (famE d) (List.range d.1.length) (fun i _ => famE_lt hd i)
  rw [List.length_range] at h
  have h2 := hd.n2
  simp only [totF] at h
  simp only [sumTo, szE]
  omega
theorem szE_le {d : CoD} (hd : CodeOk d) {f : Nat} (hf : f < 5) : sumTo (szE d) f + szE d f ≤ 24 := by
  have h := szE_sum hd
  simp only [sumTo] at h
  have : f = 0 ∨ f = 1 ∨ f = 2 ∨ f = 3 ∨ f = 4 := by omega
  rcases this with rfl | rfl | rfl | rfl | rfl <;> simp only [sumTo] <;> omega
theorem cntW_le {d : CoD} (hd : CodeOk d) {f : Nat} (hf : f ≤ 5) (x : Nat) : cntW d f x ≤ 16777216 := by
  have h1 := wayN_le (szE d) (limE d) f x
  have h2 : sumTo (szE d) f ≤ 24 := by
    by_cases h5 : f = 5
    · rw [h5]; exact szE_sum hd
    · have := szE_le hd (show f < 5 by omega); omega
  have h3 : 2 ^ sumTo (szE d) f ≤ 2 ^ 24 := Nat.pow_le_pow_right (by decide) h2
  exact Nat.le_trans h1 h3
theorem bin24 {s : Nat} (h : s ≤ 24) (k : Nat) : bin s k ≤ 16777216 := Nat.le_trans (bin_le s k) (Nat.pow_le_pow_right (by decide) h)
theorem cntW_succ (d : CoD) (f x : Nat) : cntW d (f + 1) x = conv (cntW d f) (szE d f) (limE d f) x := rfl
/-- A row of n + 1 numbers. -/
def rowN (g : Nat → Nat) (n : Nat) : List Int := (List.range (n + 1)).map (fun x => ((g x : Nat) : Int))
theorem rowN_len (g : Nat → Nat) (n : Nat) : (rowN g n).length = n + 1 := by simp [rowN]
theorem rowN_at (g : Nat → Nat) {n x : Nat} (h : x ≤ n) : (rowN g n).getD x 0 = g x := by
  unfold rowN
  rw [List.getD_eq_getElem?_getD, List.getElem?_map, List.getElem?_range (by omega)]
  rfl
theorem rowN_congr {g g' : Nat → Nat} {n : Nat} (h : ∀ x, x ≤ n → g x = g' x) : rowN g n = rowN g' n := by
  unfold rowN
  refine List.map_congr_left fun x hx => ?_
  rw [List.mem_range] at hx
  rw [h x (by omega)]
theorem rowN_set {g g' : Nat → Nat} {n k : Nat} (hk : k ≤ n) (h : ∀ x, x ≤ n → x ≠ k → g' x = g x) : rowN g' n = (rowN g n).set k (g' k) := by
  apply List.ext_getElem?
  intro i
  rw [List.getElem?_set, rowN_len]
  unfold rowN
  rw [List.getElem?_map, List.getElem?_map]
  by_cases hi : i < n + 1
  · rw [List.getElem?_range hi]
    simp only [Option.map_some]
    by_cases hki : k = i
    · subst hki
      rw [if_pos rfl, if_pos hi]
    · rw [if_neg hki, h i (by omega) (Ne.symm hki)]
  · rw [List.getElem?_eq_none (l := List.range (n + 1)) (by simp; omega), if_neg (by omega)]
    rfl
theorem rowN_zero (n : Nat) : rowN (fun _ => 0) n = List.replicate (n + 1) 0 := by
  unfold rowN
  rw [List.map_const', List.length_range]
  rfl
end Go.Proofs.YtijgndfhfggipaaGreat

/- CountSingles by the program. -/
namespace Go.Proofs.YtijgndfhfggipaaGreat
open Go.RowKit Go.Sort
set_option linter.unusedVariables false

/-- The row of the next choices while the program works: the rounds before h done, of the round h the first k terms. -/
def accW (ways : Nat → Nat) (s l n h k x : Nat) : Nat := sumTo (fun h' => addW ways s l n h' x) h + (if h ≤ x ∧ x - h < k then addW ways s l n h x else 0)
theorem accW_start (ways : Nat → Nat) (s l n h x : Nat) : accW ways s l n h 0 x = sumTo (fun h' => addW ways s l n h' x) h := by
  unfold accW
  rw [if_neg (by omega), Nat.add_zero]
theorem accW_end {ways : Nat → Nat} {s l n h k : Nat} (hk : min (min s l) (n - h) < k) (x : Nat) : accW ways s l n h k x = sumTo (fun h' => addW ways s l n h' x) (h + 1) := by
  unfold accW
  rw [sumTo]
  congr 1
  by_cases hx : h ≤ x ∧ x - h < k
  · rw [if_pos hx]
  · rw [if_neg hx]
    unfold addW
    rw [if_neg (by omega)]
theorem accW_step {ways : Nat → Nat} {s l n h k : Nat} (hk : k ≤ min (min s l) (n - h)) : accW ways s l n h (k + 1) (h + k) = accW ways s l n h k (h + k) + ways h * bin s k := by
  unfold accW
  rw [if_pos (by omega), if_neg (by omega), Nat.add_zero]
  congr 1
  unfold addW
  rw [show h + k - h = k by omega, if_pos (by omega)]
theorem accW_other {ways : Nat → Nat} {s l n h k x : Nat} (hx : x ≠ h + k) : accW ways s l n h (k + 1) x = accW ways s l n h k x := by
  unfold accW
  congr 1
  by_cases h1 : h ≤ x ∧ x - h < k
  · rw [if_pos h1, if_pos (by omega)]
  · rw [if_neg h1, if_neg (by omega)]
theorem accW_bd {ways : Nat → Nat} {s l n h k x : Nat} (hw : ∀ i, ways i ≤ 16777216) (hs : s ≤ 24) (hh : h ≤ 14) : accW ways s l n h k x ≤ 4222124650659840 := by
  have h1 : ∀ h', addW ways s l n h' x ≤ 281474976710656 := fun h' => Nat.le_trans (addW_le s l n h' x hw) (Nat.le_trans (Nat.mul_le_mul_left _ (Nat.pow_le_pow_right (by decide) hs)) (by decide))
  have h2 := sumTo_le (g := fun h' => addW ways s l n h' x) h (fun i _ => h1 i)
  have h3 := h1 h
  have h4 : h * 281474976710656 ≤ 14 * 281474976710656 := Nat.mul_le_mul_right _ hh
  unfold accW
  split <;> omega
theorem accW_all (d : CoD) (f n x : Nat) (hx : x ≤ n) : sumTo (fun h' => addW (cntW d f) (szE d f) (limE d f) n h' x) (n + 1) = cntW d (f + 1) x := by
  rw [conv_eq _ _ _ _ _ hx, cntW_succ]
theorem szA_szE (d : CoD) (f : Nat) : szA d d.1.length f = (szE d f : Nat) := rfl
theorem OwnI.made1 (w : World) {lo : Nat} (n : Nat) (hn : n ≤ 1048576) (hlo : lo ≤ w.heap.size) : OwnI 3 (w.alloc (.cells ((madeCells #[.int .i64 0] (n + 1)).setIfInBounds 0 (.int .i64 1)) 3)) lo (some ⟨w.heap.size, 0, none⟩) (n + 1) (n + 1) (rowN (fun x => if x = 0 then 1 else 0) n) := by
  have h := World.ownsRow_lit (e := 3) (size := 1) (base := lo) w ((madeCells #[.int .i64 0] (n + 1)).setIfInBounds 0 (.int .i64 1)) (n + 1) hlo (by unfold maxLen; omega) (by simp [madeCells])
  rw [Array.toList_setIfInBounds, made_zeroR] at h
  have e : rowN (fun x => if x = 0 then 1 else 0) n = (List.replicate (n + 1) (0 : Int)).set 0 1 := by
    rw [rowN_set (g := fun _ => 0) (Nat.zero_le n) (fun x _ hx => by simp [hx]), rowN_zero]
    simp
  show Own _ _ _ _ _ _ _
  rw [e, List.map_set]
  exact h
theorem min3 (X Y Z : Int) : (if Z < (if Y < X then Y else X) then Z else (if Y < X then Y else X)) = min (min X Y) Z := by
  split <;> split <;> omega

end Go.Proofs.YtijgndfhfggipaaGreat

/- CountSingles by the reference. -/
namespace Go.Proofs.YtijgndfhfggipaaGreat
open Go.RowKit Go.Sort
set_option linter.unusedVariables false

theorem s.l1Least_any (a b : Nat) (w : World) : Calls Tryz.prog 51 #[.int .i64 a, .int .i64 b] w fun e w' => e = .returned (.int .i64 (min a b : Nat)) ∧ w = w' := by
  by_cases h : a < b
  · have h1 : (a : Int) < b := by omega
    have H : Hid (min a b = a) := by show _ = _; omega
    rw [H.out]
    go_enter Tryz.func51, Tryz.ntmps51
    go_wp2
    go_ret
    exact ⟨rfl, rfl⟩
  · have h1 : ¬ (a : Int) < b := by omega
    have H : Hid (min a b = b) := by show _ = _; omega
    rw [H.out]
    go_enter Tryz.func51, Tryz.ntmps51
    go_wp2
    go_ret
    exact ⟨rfl, rfl⟩

def famC (d : CoD) (f i : Nat) : Nat := cntF (famE d) f (List.range i)
theorem famC_succ (d : CoD) (f i : Nat) : famC d f (i + 1) = famC d f i + (if famE d i = f then 1 else 0) := by
  unfold famC
  rw [List.range_succ, cntF_snoc]
theorem famC_le (d : CoD) (f i : Nat) : famC d f i ≤ i := by
  unfold famC cntF
  have := List.length_filter_le (fun i => famE d i == f) (List.range i)
  rwa [List.length_range] at this
/-- The row of one family while an element is taken in: from behind. -/
def stepB (c k x : Nat) : Nat := if k < x then bin (c + 1) x else bin c x
theorem stepB_start {c n x : Nat} (h : x ≤ n) : stepB c n x = bin c x := by unfold stepB; rw [if_neg (by omega)]
theorem stepB_end (c x : Nat) : stepB c 0 x = bin (c + 1) x := by
  unfold stepB
  split
  · rfl
  · have : x = 0 := by omega
    subst this
    rw [bin_zero, bin_zero]
theorem stepB_other {c k x : Nat} (h : x ≠ k + 1) : stepB c k x = stepB c (k + 1) x := by
  unfold stepB
  by_cases h1 : k + 1 < x
  · rw [if_pos (by omega), if_pos h1]
  · rw [if_neg (by omega), if_neg h1]
theorem stepB_at (c k : Nat) : stepB c k (k + 1) = stepB c (k + 1) (k + 1) + stepB c (k + 1) k := by
  unfold stepB
  rw [if_pos (by omega), if_neg (by omega), if_neg (by omega), bin_succ]
  omega
theorem stepB_le {c : Nat} (h : c < 24) (k x : Nat) : stepB c k x ≤ 16777216 := by
  unfold stepB
  split
  · exact bin24 (by omega) _
  · exact bin24 (by omega) _
/-- The next row while the reference works. -/
def nextP (g : Nat → Nat) (p : Nat) (k x : Nat) : Nat := if x < k then g x else if x = k then p else 0

end Go.Proofs.YtijgndfhfggipaaGreat
