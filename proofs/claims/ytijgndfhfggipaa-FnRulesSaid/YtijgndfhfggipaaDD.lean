/- What is read above a block; lists that share their inner memory; marks under way in a draw. -/
import Derived.Test.YtijgndfhfggipaaDC
import Derived.Test.YtijgndfhfggipaaMP
import Derived.Deep.RegionHeld3
namespace Go.Proofs.Ytijgndfhfggipaa
open Go.RowKit Go.Sort
set_option linter.unusedVariables false

/-- The value reads as d, and its memory lies in blocks from lo on. -/
def RdA {D : Type} (K : Kind D) (lo : Nat) (w : World) (v : Value) (d : D) : Prop :=
  ∀ w2 : World, w.heap.size ≤ w2.heap.size → (∀ i, lo ≤ i → i < w.heap.size → w2.heap[i]? = w.heap[i]?) → K.rd w2 v d
section
variable {D : Type} {K : Kind D} {w w' : World} {lo lo' hi : Nat} {v : Value} {d : D} {fp : List Nat}
theorem RdA.rd (h : RdA K lo w v d) : K.rd w v d := h w (Nat.le_refl _) (fun _ _ _ => rfl)
theorem RdA.tchF (h : RdA K lo w v d) (k : TchF fp w w') (hd : ∀ i ∈ fp, i < lo ∨ w.heap.size ≤ i) : RdA K lo w' v d := fun w2 hs hb =>
  h w2 (Nat.le_trans k.size hs) (fun i h1 h2 => (hb i h1 (Nat.lt_of_lt_of_le h2 k.size)).trans (k.block i h2 (fun hm => by have := hd i hm; omega)))
theorem RdA.ext (h : RdA K lo w v d) (k : Ext w w') : RdA K lo w' v d := h.tchF (TchF.of_ext k (fp := [])) (by simp)
theorem RdA.mono (h : RdA K lo w v d) (hl : lo' ≤ lo) : RdA K lo' w v d := fun w2 hs hb => h w2 hs (fun i h1 h2 => hb i (by omega) h2)
theorem RdA.far (h : RdA K lo w v d) {p : Addr} (hp : p.block < lo) (u : Value) : RdA K lo (w.setCell p u) v d := fun w2 hs hb =>
  h w2 (by simpa [World.setCell] using hs) (fun i h1 h2 => (hb i h1 (by simpa [World.setCell] using h2)).trans (Below.heap_setCell _ _ _ _ (by omega)))
end
theorem kM.rdA {w : World} {lo hi : Nat} {v : Value} {d : MD} (h : kM.fr w lo hi v d) : RdA kM lo w v d := by
  obtain ⟨vs, fp, rfl, h, hf⟩ := h
  intro w2 hs hb
  exact ⟨vs, rfl, kdM.own_rd (kdM.own_keep h (fun i hi => hb i (hf i hi).1 (kdM.own_lt h i hi)))⟩

/-- A row of slices that are read. -/
theorem LR.of_cells {w : World} {B g c : Nat} {xs : List (List Int)} (hg : g < B) (h1 : xs.length ≤ c) (h2 : c ≤ 9223372036854775807) (h : ∀ (k : Nat) (x : List Int), xs[k]? = some x → ∃ Ax cx, w.cell? ⟨g, k, none⟩ = some (.slice Ax x.length cx) ∧ LR kdInt w B Ax cx x) : LR kdL w B (some ⟨g, 0, none⟩) c xs := by
  refine ⟨h1, h2, fun k x hx => ?_⟩
  obtain ⟨Ax, cx, hc, hr⟩ := h k x hx
  refine ⟨g, 0, [.slice Ax x.length cx], rfl, hg, ⟨Ax, cx, rfl, hr⟩, fun j u hu => ?_⟩
  obtain rfl : j = 0 := by have := (List.getElem?_eq_some_iff.1 hu).1; simp at this; omega
  simp at hu
  subst hu
  rw [show 0 + (k * kdL.size + 0) = k from by show 0 + (k * 1 + 0) = k; omega]
  exact hc
theorem LR.mk {w : World} {A : Option Addr} {c : Nat} {xs : List (List Int)} {A' : Option Addr} {c' : Nat} {ys : List (List Int)} (h : LR kdL w w.heap.size A c xs) (h' : LR kdL w w.heap.size A' c' ys) : kM.rd w (.agg #[.slice A xs.length c, .slice A' ys.length c']) (xs, ys) :=
  ⟨[.slice A xs.length c, .slice A' ys.length c'], rfl, [.slice A xs.length c], [.slice A' ys.length c'], rfl, ⟨A, c, rfl, h⟩, ⟨A', c', rfl, h'⟩⟩

theorem wtL_le {xs : List (List Int)} {m : Nat} (h : ∀ x ∈ xs, x.length ≤ m) : wtL kdL xs ≤ (m + 1) * xs.length := by
  induction xs with
  | nil => exact Nat.zero_le _
  | cons x t ih =>
    have h1 := ih (fun y hy => h y (List.mem_cons_of_mem _ hy))
    have h2 : kdL.wt x = x.length := wtL_int x
    have h3 := h x (List.mem_cons_self ..)
    show 1 + kdL.wt x + wtL kdL t ≤ (m + 1) * (t.length + 1)
    rw [Nat.mul_add, Nat.mul_one]
    omega
theorem kM.ok_small {d : MD} {n : Nat} (hn : n ≤ 1000) (h1 : d.1.length ≤ n) (h2 : d.2.length ≤ 4) (h3 : ∀ x ∈ d.1, x.length ≤ 10) (h4 : ∀ x ∈ d.2, x.length ≤ 10) : kM.ok d := by
  have e1 := wtL_le h3
  have e2 := wtL_le h4
  have e3 : kdM.wt d = wtL kdL d.1 + wtL kdL d.2 := rfl
  show kdM.wt d ≤ 1048576
  omega

section
variable {w wr w2 : World} {g g5 : Nat} {A : Option Addr} {c : Nat} {A' : Option Addr} {c' : Nat} {d : MD} {fp fp' : List Nat}
end
/-- The result stored in its own cells. -/
theorem ret_two {w wr : World} {g lo N : Nat} {v u0 u1 : Value} {d : MD} (h : RdA kM lo wr v d) (hl : w.heap.size < lo) (hc : Cur wr g N) (hg : g < w.heap.size) (ht : TchF [g] w wr) :
    RdA kM w.heap.size ((wr.setCell ⟨w.heap.size, 0, none⟩ u0).setCell ⟨w.heap.size, 1, none⟩ u1) v d ∧ Cur ((wr.setCell ⟨w.heap.size, 0, none⟩ u0).setCell ⟨w.heap.size, 1, none⟩ u1) g N ∧ TchF [g] w ((wr.setCell ⟨w.heap.size, 0, none⟩ u0).setCell ⟨w.heap.size, 1, none⟩ u1) := by
  have t2 := (TchF.put wr ⟨w.heap.size, 0, none⟩ u0 (fp := [w.heap.size]) (by simp)).trans (TchF.put (wr.setCell ⟨w.heap.size, 0, none⟩ u0) ⟨w.heap.size, 1, none⟩ u1 (fp := [w.heap.size]) (by simp))
  exact ⟨((h.far (by simpa using hl) u0).far (by simpa using hl) u1).mono (by omega), hc.tchF t2 (fun i hi => by simp at hi; omega), ht.step t2 (fun i hi => .inr (by simp at hi; omega))⟩
end Go.Proofs.Ytijgndfhfggipaa
