/- A greedy choice with room for each family: how many it takes. Of no program. -/
import Derived.Test.YtcnpbaldnhfebaaGA
namespace Go.Proofs.Ytcnpbaldnhfebaa
set_option linter.unusedVariables false

section
variable (fam : Nat → Nat) (lim : Nat → Nat) (base : Nat → Int)
def cntF (f : Nat) (l : List Nat) : Nat := (l.filter (fun i => fam i == f)).length
def roomF (out : List Nat) (f : Nat) : Int := (lim f : Int) - (cntF fam f out : Nat)
/-- The best one among the first k that there is room for, or -1. -/
def pickF (out : List Nat) : Nat → Int
  | 0 => -1
  | k + 1 => if 0 < roomF fam lim out (fam k) ∧ k ∉ out ∧ (pickF out k < 0 ∨ base (pickF out k).toNat < base k) then (k : Int) else pickF out k
/-- The choice of n at most out of N, with so many rounds left. -/
def choosF (N n : Nat) : Nat → List Nat → List Nat
  | 0, out => out
  | q + 1, out => if out.length < n then (if pickF fam lim base out N < 0 then out else choosF N n q (out ++ [(pickF fam lim base out N).toNat])) else out
def totF (g : Nat → Nat) : Nat := g 0 + g 1 + g 2 + g 3 + g 4

theorem pickF_or (out : List Nat) (k : Nat) : pickF fam lim base out k = -1 ∨ ∃ i : Nat, i < k ∧ pickF fam lim base out k = i ∧ 0 < roomF fam lim out (fam i) ∧ i ∉ out := by
  induction k with
  | zero => exact .inl rfl
  | succ k ih =>
    unfold pickF
    split
    · rename_i h
      exact .inr ⟨k, by omega, rfl, h.1, h.2.1⟩
    · rcases ih with h | ⟨i, h1, h2, h3, h4⟩
      · exact .inl h
      · exact .inr ⟨i, by omega, h2, h3, h4⟩
theorem pickF_none (out : List Nat) (k : Nat) (h : pickF fam lim base out k < 0) : ∀ i, i < k → 0 < roomF fam lim out (fam i) → i ∈ out := by
  induction k with
  | zero => intro i hi; omega
  | succ k ih =>
    unfold pickF at h
    split at h
    · omega
    · rename_i hc
      intro i hi hr
      by_cases hik : i = k
      · subst hik
        apply Classical.byContradiction
        intro hm
        exact hc ⟨hr, hm, .inl h⟩
      · exact ih h i (by omega) hr
theorem nodup_len_le {l l' : List Nat} (h : l.Nodup) (hs : ∀ x ∈ l, x ∈ l') : l.length ≤ l'.length := by
  induction l generalizing l' with
  | nil => exact Nat.zero_le _
  | cons x t ih =>
    rw [List.nodup_cons] at h
    have hx : x ∈ l' := hs x (by simp)
    have h1 := ih h.2 (l' := l'.erase x) (fun y hy => by
      have hne : y ≠ x := fun e => h.1 (e ▸ hy)
      exact (List.mem_erase_of_ne hne).2 (hs y (by simp [hy])))
    rw [List.length_erase_of_mem hx] at h1
    have : 0 < l'.length := List.length_pos_of_mem hx
    simp only [List.length_cons]
    omega
theorem cntF_le {l l' : List Nat} (f : Nat) (h : l.Nodup) (hs : ∀ x ∈ l, fam x = f → x ∈ l') : cntF fam f l ≤ cntF fam f l' := by
  unfold cntF
  refine nodup_len_le (h.filter _) (fun x hx => ?_)
  rw [List.mem_filter] at hx ⊢
  have hf : fam x = f := by simpa using hx.2
  exact ⟨hs x hx.1 hf, hx.2⟩
theorem cntF_cons (f i : Nat) (t : List Nat) : cntF fam f (i :: t) = (if fam i = f then 1 else 0) + cntF fam f t := by
  unfold cntF
  rw [List.filter_cons]
  by_cases h : fam i = f
  · simp [h]; omega
  · simp [h]
theorem cntF_snoc (f i : Nat) (t : List Nat) : cntF fam f (t ++ [i]) = cntF fam f t + (if fam i = f then 1 else 0) := by
  unfold cntF
  rw [List.filter_append, List.length_append]
  congr 1
  by_cases h : fam i = f <;> simp [h]
theorem len_totF (l : List Nat) (h : ∀ i ∈ l, fam i < 5) : l.length = totF (fun f => cntF fam f l) := by
  induction l with
  | nil => rfl
  | cons i t ih =>
    have h1 := ih (fun j hj => h j (by simp [hj]))
    have h2 := h i (by simp)
    simp only [totF, cntF_cons, List.length_cons] at h1 ⊢
    have h3 : fam i = 0 ∨ fam i = 1 ∨ fam i = 2 ∨ fam i = 3 ∨ fam i = 4 := by omega
    rcases h3 with h3 | h3 | h3 | h3 | h3 <;> simp only [h3] <;> simp <;> omega
/-- What the choice keeps. -/
structure ChOk (N n : Nat) (out : List Nat) : Prop where
  nd : out.Nodup
  lt : ∀ i ∈ out, i < N
  lim : ∀ f, cntF fam f out ≤ lim f
  len : out.length ≤ n
variable {fam lim base}
theorem ChOk.next {N n : Nat} {out : List Nat} (h : ChOk fam lim N n out) {i : Nat} (hi : i < N) (hr : 0 < roomF fam lim out (fam i)) (hm : i ∉ out) (hl : out.length < n) : ChOk fam lim N n (out ++ [i]) := by
  refine ⟨?_, ?_, ?_, by rw [List.length_append]; exact hl⟩
  · rw [List.nodup_append]
    refine ⟨h.nd, by simp, fun a ha b hb e => ?_⟩
    simp at hb
    subst hb e
    exact hm ha
  · intro j hj
    rcases List.mem_append.1 hj with hj | hj
    · exact h.lt j hj
    · simp at hj; omega
  · intro f
    rw [cntF_snoc]
    have := h.lim f
    split
    · rename_i e
      subst e
      unfold roomF at hr
      omega
    · omega
/-- How many the choice takes: as many as fit, n at most. -/
theorem choosF_len {N n : Nat} (hf : ∀ i, i < N → fam i < 5) : ∀ (q : Nat) (out : List Nat), ChOk fam lim N n out → n ≤ out.length + q → (choosF fam lim base N n q out).length = min n (totF (fun f => min (cntF fam f (List.range N)) (lim f))) := by
  have le : ∀ out, ChOk fam lim N n out → out.length ≤ totF (fun f => min (cntF fam f (List.range N)) (lim f)) := by
    intro out h
    rw [len_totF fam out (fun i hi => hf i (h.lt i hi))]
    have h1 : ∀ f, cntF fam f out ≤ min (cntF fam f (List.range N)) (lim f) := fun f => by
      have h2 := cntF_le fam (l' := List.range N) f h.nd (fun x hx _ => List.mem_range.2 (h.lt x hx))
      have h3 := h.lim f
      omega
    simp only [totF]
    have := h1 0; have := h1 1; have := h1 2; have := h1 3; have := h1 4
    omega
  intro q
  induction q with
  | zero =>
    intro out h hq
    have h1 := le out h
    have h2 := h.len
    unfold choosF
    omega
  | succ q ih =>
    intro out h hq
    unfold choosF
    split
    · rename_i hl
      split
      · rename_i hp
        have hn := pickF_none fam lim base out N hp
        have h1 := le out h
        have h2 : totF (fun f => min (cntF fam f (List.range N)) (lim f)) ≤ out.length := by
          rw [len_totF fam out (fun i hi => hf i (h.lt i hi))]
          have h3 : ∀ f, min (cntF fam f (List.range N)) (lim f) ≤ cntF fam f out := fun f => by
            by_cases hc : cntF fam f out < lim f
            · have h4 := cntF_le fam (l' := out) f (List.nodup_range (n := N)) (fun x hx e => hn x (List.mem_range.1 hx) (by unfold roomF; rw [e]; omega))
              omega
            · omega
          simp only [totF]
          have := h3 0; have := h3 1; have := h3 2; have := h3 3; have := h3 4
          omega
        omega
      · rename_i hp
        rcases pickF_or fam lim base out N with h1 | ⟨i, h1, h2, h3, h4⟩
        · omega
        · rw [h2, Int.toNat_natCast]
          exact ih _ (h.next h1 h3 h4 hl) (by rw [List.length_append, List.length_singleton]; omega)
    · rename_i hl
      have h1 := le out h
      have h2 := h.len
      omega
end
end Go.Proofs.Ytcnpbaldnhfebaa
