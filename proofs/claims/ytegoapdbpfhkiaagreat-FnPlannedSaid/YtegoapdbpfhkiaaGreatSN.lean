/- The greedy choice is the choice of the best one again and again. Of no program. -/
import Derived.Test.YtegoapdbpfhkiaaGreatGP
namespace Go.Proofs.YtegoapdbpfhkiaaGreat
set_option linter.unusedVariables false

section
variable {fam : Nat → Nat} {lim : Nat → Nat} {base : Nat → Int}
/-- i goes ahead of k: greater, or as great and earlier. -/
def befF (base : Nat → Int) (i k : Nat) : Prop := base k < base i ∨ (base i = base k ∧ i < k)
theorem befF_trans {i j k : Nat} (h : befF base i j) (h' : befF base j k) : befF base i k := by
  unfold befF at *
  omega
/-- The greedy choice along a list. -/
def grdF (fam : Nat → Nat) (lim : Nat → Nat) (n : Nat) : List Nat → List Nat → List Nat
  | [], out => out
  | x :: t, out => if out.length < n ∧ 0 < roomF fam lim out (fam x) then grdF fam lim n t (out ++ [x]) else grdF fam lim n t out
theorem grdF_full {n : Nat} {out : List Nat} (h : ¬ out.length < n) : ∀ l, grdF fam lim n l out = out := by
  intro l
  induction l with
  | nil => rfl
  | cons x t ih => unfold grdF; rw [if_neg (fun hh => h hh.1)]; exact ih
theorem roomF_snoc (out : List Nat) (x f : Nat) : roomF fam lim (out ++ [x]) f ≤ roomF fam lim out f := by
  unfold roomF
  rw [cntF_snoc]
  split <;> omega
theorem pickF_best {out : List Nat} {N x : Nat} (hx : x < N) (hr : 0 < roomF fam lim out (fam x)) (hm : x ∉ out) (hb : ∀ i, i < N → i ≠ x → 0 < roomF fam lim out (fam i) → i ∉ out → befF base x i) :
    ∀ k, k ≤ N → x < k → pickF fam lim base out k = x := by
  intro k
  induction k with
  | zero => intro _ h; omega
  | succ k ih =>
    intro hk hxk
    unfold pickF
    by_cases e : x = k
    · subst e
      rw [if_pos]
      refine ⟨hr, hm, ?_⟩
      rcases pickF_or fam lim base out x with h1 | ⟨i, h1, h2, h3, h4⟩
      · left; omega
      · right
        rw [h2, Int.toNat_natCast]
        have := hb i (by omega) (by omega) h3 h4
        unfold befF at this
        omega
    · rw [ih (by omega) (by omega), if_neg]
      rintro ⟨h1, h2, h3⟩
      have := hb k (by omega) (Ne.symm e) h1 h2
      unfold befF at this
      rw [Int.toNat_natCast] at h3
      omega
theorem choosF_grd {N n : Nat} : ∀ (l : List Nat) (q : Nat) (out : List Nat), l.Pairwise (befF base) → (∀ i, i < N → 0 < roomF fam lim out (fam i) → i ∉ out → i ∈ l) → (∀ x ∈ l, x ∉ out ∧ x < N) → n ≤ out.length + q →
    choosF fam lim base N n q out = grdF fam lim n l out := by
  intro l
  induction l with
  | nil =>
    intro q out _ hc _ hq
    show _ = out
    cases q with
    | zero => rfl
    | succ q =>
      unfold choosF
      split
      · rcases pickF_or fam lim base out N with h1 | ⟨i, h1, h2, h3, h4⟩
        · rw [if_pos (by omega)]
        · exact absurd (hc i h1 h3 h4) (by simp)
      · rfl
  | cons x t ih =>
    intro q out hp hc hl hq
    rw [List.pairwise_cons] at hp
    have hx := hl x (by simp)
    by_cases hf : out.length < n
    · by_cases hr : 0 < roomF fam lim out (fam x)
      · obtain ⟨q, rfl⟩ : ∃ q', q = q' + 1 := ⟨q - 1, by omega⟩
        have hb : pickF fam lim base out N = x := pickF_best hx.2 hr hx.1 (fun i hi hne h1 h2 => by
          rcases List.mem_cons.1 (hc i hi h1 h2) with e | e
          · exact absurd e hne
          · exact hp.1 i e) N (Nat.le_refl _) hx.2
        unfold choosF grdF
        rw [if_pos hf, hb, if_neg (by omega), Int.toNat_natCast, if_pos ⟨hf, hr⟩]
        refine ih q _ hp.2 (fun i hi h1 h2 => ?_) (fun y hy => ?_) (by rw [List.length_append, List.length_singleton]; omega)
        · have h3 := roomF_snoc (fam := fam) (lim := lim) out x (fam i)
          simp only [List.mem_append, List.mem_singleton, not_or] at h2
          rcases List.mem_cons.1 (hc i hi (by omega) h2.1) with e | e
          · exact absurd e h2.2
          · exact e
        · have h4 := hl y (by simp [hy])
          refine ⟨?_, h4.2⟩
          simp only [List.mem_append, List.mem_singleton, not_or]
          refine ⟨h4.1, ?_⟩
          rintro rfl
          have := hp.1 y hy
          unfold befF at this
          omega
      · unfold grdF
        rw [if_neg (fun hh => hr hh.2)]
        refine ih q out hp.2 (fun i hi h1 h2 => ?_) (fun y hy => hl y (by simp [hy])) hq
        rcases List.mem_cons.1 (hc i hi h1 h2) with e | e
        · subst e; exact absurd h1 hr
        · exact e
    · rw [grdF_full hf]
      cases q with
      | zero => rfl
      | succ q => unfold choosF; rw [if_neg hf]
end
end Go.Proofs.YtegoapdbpfhkiaaGreat
