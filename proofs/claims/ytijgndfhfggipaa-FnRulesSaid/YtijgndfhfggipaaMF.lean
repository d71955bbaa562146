/- The marks of one judge: the laws' two functions. -/
import Derived.Test.YtijgndfhfggipaaME
import Derived.Deep.RegionHeld3
namespace Go.Proofs.Ytijgndfhfggipaa
open Go.RowKit Go.Sort
set_option linter.unusedVariables false

def judgeMarksF (d : MD) (j : Int) : List Int × List Int × Bool := if hasJudge d j then (colF d.1 j.toNat, colF d.2 j.toNat, true) else ([], [], false)

theorem held_keep {w1 w' w'' : World} {g : Nat} {cs : Array Value} {t : TypeId} (hb : Blk w1 g cs t) (h : Hid (Ext w1 w')) (k : Ext w' w'') : (∀ i, w''.cell? ⟨g, i, none⟩ = cs[i]?) ∧ Hid (Ext w1 w'') :=
  ⟨(hb.ext (h.out.trans k)).cell, h.out.trans k⟩

/-- Two objects lie in blocks of their own. -/
def Apart (A A' : Option Addr) : Prop := ∀ p q, A = some p → A' = some q → p.block ≠ q.block
theorem Apart.symm {A A' : Option Addr} (h : Apart A A') : Apart A' A := fun p q hp hq e => h q p hq hp e.symm
section
variable {e : TypeId} {w w' : World} {lo lo' n c n' c' : Nat} {A A' : Option Addr} {vs vs' : List Value} {zs zs' : List Int}
theorem Own.keepB (h : Own e w lo A n c vs) (hk : ∀ p, A = some p → w'.heap[p.block]? = w.heap[p.block]?) : Own e w' lo A n c vs := by
  refine ⟨h.1, ?_⟩
  rcases h.2 with h | ⟨g, cap, cur, h, h1, h2, r⟩
  · exact .inl h
  · refine .inr ⟨g, cap, cur, h, h1, ?_, r⟩
    simp only [Value.slice.injEq] at h
    rw [hk _ h.1, h2]
theorem Own.raise (h : Own e w lo A n c vs) (hl : ∀ p, A = some p → lo' ≤ p.block) : Own e w lo' A n c vs := by
  refine ⟨h.1, ?_⟩
  rcases h.2 with h | ⟨g, cap, cur, h, h1, r⟩
  · exact .inl h
  · refine .inr ⟨g, cap, cur, h, ?_, r⟩
    simp only [Value.slice.injEq] at h
    exact hl _ h.1
theorem Own.lt (h : Own e w lo A n c vs) : ∀ p, A = some p → p.block < w.heap.size := by
  rintro p rfl
  rcases h.form with ⟨h, _⟩ | ⟨g, h, _, h1, _⟩
  · cases h
  · injection h with h; subst h; exact h1
/-- An append onto one leaves the other. -/
theorem Own.apd2 {A2 : Option Addr} {n2 c2 lo2 : Nat} {vs2 : List Value} (h : Own e w lo2 A2 n2 c2 vs2) (ha : Apd e w lo A w' A' n' c' vs') (hne : Apart A A2) : Own e w' lo2 A2 n2 c2 vs2 ∧ Apart A' A2 := by
  have ht := TchF.of_grown (fp := (A.map (·.block)).toList) ha.grew (fun p hp => by subst hp; simp)
  refine ⟨h.keepB fun p hp => ht.block _ (h.lt p hp) fun hm => ?_, fun p q hp hq => ?_⟩
  · cases A with
    | none => simp at hm
    | some a => simp at hm; exact hne a p rfl hp hm.symm
  · have hw := ha.where_
    subst hp
    rcases hw with hw | hw
    · cases A with
      | none => simp at hw
      | some a => simp at hw; rw [hw]; exact hne a q rfl hq
    · simp at hw
      have := h.lt q hq
      omega
theorem Blk.apd {g : Nat} {cs : Array Value} {t : TypeId} (h : Blk w g cs t) (ha : Apd e w lo A w' A' n' c' vs') (hne : ∀ p, A = some p → p.block ≠ g) : Blk w' g cs t :=
  h.tchF (TchF.of_grown (fp := (A.map (·.block)).toList) ha.grew (fun p hp => by subst hp; simp)) fun hm => by
    cases A with
    | none => simp at hm
    | some a => simp at hm; exact hne a rfl hm.symm
theorem two_own (h : OwnI e w lo A n c zs) (h' : OwnI e w lo A' n' c' zs') (hne : Apart A A') (hlo : lo ≤ w.heap.size) :
    ∃ l0 h0 l1 h1, FrI e w l0 h0 A n c zs ∧ FrI e w l1 h1 A' n' c' zs' ∧ (lo ≤ l0 ∧ lo ≤ l1 ∧ h0 ≤ w.heap.size ∧ h1 ≤ w.heap.size ∧ (h0 ≤ l1 ∨ h1 ≤ l0)) := by
  rcases A with _ | a
  · exact ⟨lo, lo, lo, w.heap.size, ⟨Own.raise h (by simp), hlo, by simp⟩, h'.fr, by omega⟩
  · rcases A' with _ | b
    · exact ⟨lo, w.heap.size, lo, lo, h.fr, ⟨Own.raise h' (by simp), hlo, by simp⟩, by omega⟩
    · have h1 := Own.lt h a rfl
      have h2 := Own.lt h' b rfl
      have h3 := Own.fromLo h a rfl
      have h4 := Own.fromLo h' b rfl
      have h5 := hne a b rfl rfl
      exact ⟨a.block, a.block + 1, b.block, b.block + 1, ⟨Own.raise h (fun p hp => by cases hp; exact Nat.le_refl _), h1, fun p hp => by cases hp; exact Nat.lt_succ_self _⟩, ⟨Own.raise h' (fun p hp => by cases hp; exact Nat.le_refl _), h2, fun p hp => by cases hp; exact Nat.lt_succ_self _⟩, by omega⟩
end
/-- What two lists of numbers among a call's results are: objects of its own, apart from each other. -/
def TwoFr (w w' : World) (v0 v1 : Value) (z0 z1 : List Int) (l0 h0 l1 h1 : Nat) : Prop :=
  kI.fr w' l0 h0 v0 z0 ∧ kI.ok z0 ∧ kI.fr w' l1 h1 v1 z1 ∧ kI.ok z1 ∧ (w.heap.size ≤ l0 ∧ w.heap.size ≤ l1 ∧ h0 ≤ w'.heap.size ∧ h1 ≤ w'.heap.size ∧ (h0 ≤ l1 ∨ h1 ≤ l0)) ∧ Ext w w'
theorem kI.fr_nil (w : World) (lo hi : Nat) (h : hi ≤ w.heap.size) : kI.fr w lo hi (.slice none 0 0) [] := ⟨none, 0, rfl, OwnI.nil, h, fun p hp => by cases hp⟩

end Go.Proofs.Ytijgndfhfggipaa
