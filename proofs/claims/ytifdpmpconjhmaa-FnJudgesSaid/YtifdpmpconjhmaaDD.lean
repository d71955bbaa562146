/- What is read above a block; lists that share their inner memory; marks under way in a draw. -/
import Derived.Test.YtifdpmpconjhmaaDC
import Derived.Test.YtifdpmpconjhmaaMP
import Derived.Deep.RegionHeld3
namespace Go.Proofs.Ytifdpmpconjhmaa
open Go.RowKit Go.Sort
set_option linter.unusedVariables false

/-- The value reads as d, and its memory lies in blocks from lo on. -/
def RdA {D : Type} (K : Kind D) (lo : Nat) (w : World) (v : Value) (d : D) : Prop :=
  ∀ w2 : World, w.heap.size ≤ w2.heap.size → (∀ i, lo ≤ i → i < w.heap.size → w2.heap[i]? = w.heap[i]?) → K.rd w2 v d
section
variable {D : Type} {K : Kind D} {w w' : World} {lo lo' hi : Nat} {v : Value} {d : D} {fp : List Nat}
theorem RdA.rd (h : RdA K lo w v d) : K.rd w v d := h w (Nat.le_refl _) (fun _ _ _ => rfl)
theorem RdA.tchF (h : RdA K lo w v d) (k : TchF fp w w') (hd : ∀ i ∈ fp, i < lo ∨ w.heap.size ≤ i) : RdA K lo w' v d := fun w2 hs hb =>
  h w2 (Nat.le_trans k.size hs) (fun i h1 h2 => (hb i h1 (Nat.lt_of_lt_of_le h2 k.size)).trans (k.block i h2 (fun hm => by have := hd i hm; omega)))
theorem RdA.ext (h : RdA K lo w v d) (k : Ext w w') : RdA K lo w' v d := h.tchF (TchF.of_ext k (fp := [])) (by simp)
theorem RdA.mono (h : RdA K lo w v d) (hl : lo' ≤ lo) : RdA K lo' w v d := fun w2 hs hb => h w2 hs (fun i h1 h2 => hb i (by omega) h2)
theorem RdA.far (h : RdA K lo w v d) {p : Addr} (hp : p.block < lo) (u : Value) : RdA K lo (w.setCell p u) v d := fun w2 hs hb =>
  h w2 (by simpa [World.setCell] using hs) (fun i h1 h2 => (hb i h1 (by simpa [World.setCell] using h2)).trans (Below.heap_setCell _ _ _ _ (by omega)))
end
theorem kM.rdA {w : World} {lo hi : Nat} {v : Value} {d : MD} (h : kM.fr w lo hi v d) : RdA kM lo w v d := by
  obtain ⟨vs, fp, rfl, h, hf⟩ := h
  intro w2 hs hb
  exact ⟨vs, rfl, kdM.own_rd (kdM.own_keep h (fun i hi => hb i (hf i hi).1 (kdM.own_lt h i hi)))⟩

/-- A row of slices that are read. -/
theorem LR.of_cells {w : World} {B g c : Nat} {xs : List (List Int)} (hg : g < B) (h1 : xs.length ≤ c) (h2 : c ≤ 9223372036854775807) (h : ∀ (k : Nat) (x : List Int), xs[k]? = some x → ∃ Ax cx, w.cell? ⟨g, k, none⟩ = some (.slice Ax x.length cx) ∧ LR kdInt w B Ax cx x) : LR kdL w B (some ⟨g, 0, none⟩) c xs := by
  refine ⟨h1, h2, fun k x hx => ?_⟩
  obtain ⟨Ax, cx, hc, hr⟩ := h k x hx
  refine ⟨g, 0, [.slice Ax x.length cx], rfl, hg, ⟨Ax, cx, rfl, hr⟩, fun j u hu => ?_⟩
  obtain rfl : j = 0 := by have := (List.getElem?_eq_some_iff.1 hu).1; simp at this; omega
  simp at hu
  subst hu
  rw [show 0 + (k * kdL.size + 0) = k from by show 0 + (k * 1 + 0) = k; omega]
  exact hc
theorem LR.mk {w : World} {A : Option Addr} {c : Nat} {xs : List (List Int)} {A' : Option Addr} {c' : Nat} {ys : List (List Int)} (h : LR kdL w w.heap.size A c xs) (h' : LR kdL w w.heap.size A' c' ys) : kM.rd w (.agg #[.slice A xs.length c, .slice A' ys.length c']) (xs, ys) :=
  ⟨[.slice A xs.length c, .slice A' ys.length c'], rfl, [.slice A xs.length c], [.slice A' ys.length c'], rfl, ⟨A, c, rfl, h⟩, ⟨A', c', rfl, h'⟩⟩

theorem wtL_le {xs : List (List Int)} {m : Nat} (h : ∀ x ∈ xs, x.length ≤ m) : wtL kdL xs ≤ (m + 1) * xs.length := by
  induction xs with
  | nil => exact Nat.zero_le _
  | cons x t ih =>
    have h1 := ih (fun y hy => h y (List.mem_cons_of_mem _ hy))
    have h2 : kdL.wt x = x.length := wtL_int x
    have h3 := h x (List.mem_cons_self ..)
    show 1 + kdL.wt x + wtL kdL t ≤ (m + 1) * (t.length + 1)
    rw [Nat.mul_add, Nat.mul_one]
    omega
theorem kM.ok_small {d : MD} {n : Nat} (hn : n ≤ 1000) (h1 : d.1.length ≤ n) (h2 : d.2.length ≤ 4) (h3 : ∀ x ∈ d.1, x.length ≤ 10) (h4 : ∀ x ∈ d.2, x.length ≤ 10) : kM.ok d := by
  have e1 := wtL_le h3
  have e2 := wtL_le h4
  have e3 : kdM.wt d = wtL kdL d.1 + wtL kdL d.2 := rfl
  show kdM.wt d ≤ 1048576
  omega

/-- Marks drawn: the result's cell, the box of both lists, the lists of the call's own. -/
structure AmSt (w wr : World) (g g5 : Nat) (A : Option Addr) (c : Nat) (A' : Option Addr) (c' : Nat) (d : MD) (fp fp' : List Nat) : Prop where
  b0 : Blk wr w.heap.size #[.slice none 0 0, .slice none 0 0] 25
  b5 : Blk wr g5 #[.slice A d.1.length c, .slice A' d.2.length c'] 25
  og : LO kdL 36 wr A c d.1 fp
  oc : LO kdL 36 wr A' c' d.2 fp'
  bg : ∀ i ∈ fp, w.heap.size < i ∧ i ≠ g5
  bc : ∀ i ∈ fp', w.heap.size < i ∧ i ≠ g5
  dj : ∀ i ∈ fp, i ∉ fp'
  h5 : w.heap.size < g5
  tch : TchF [g] w wr
section
variable {w wr w2 : World} {g g5 : Nat} {A : Option Addr} {c : Nat} {A' : Option Addr} {c' : Nat} {d : MD} {fp fp' : List Nat}
theorem AmSt.keep {fx : List Nat} (h : AmSt w wr g g5 A c A' c' d fp fp') (hg : g < w.heap.size) (k : TchF fx wr w2) (hd : ∀ i ∈ fx, i = g ∨ wr.heap.size ≤ i) : AmSt w w2 g g5 A c A' c' d fp fp' where
  b0 := h.b0.tchF k (fun hm => by have := h.b0.lt; rcases hd _ hm with e | e <;> omega)
  b5 := h.b5.tchF k (fun hm => by have := h.b5.lt; have := h.h5; rcases hd _ hm with e | e <;> omega)
  og := h.og.keep fun i hi => k.block i (h.og.lt i hi) (fun hm => by have := h.og.lt i hi; have := (h.bg i hi).1; rcases hd _ hm with e | e <;> omega)
  oc := h.oc.keep fun i hi => k.block i (h.oc.lt i hi) (fun hm => by have := h.oc.lt i hi; have := (h.bc i hi).1; rcases hd _ hm with e | e <;> omega)
  bg := h.bg
  bc := h.bc
  dj := h.dj
  h5 := h.h5
  tch := h.tch.step k fun i hi => by
    rcases hd i hi with e | e
    · exact .inl e
    · have := h.tch.size; exact .inr (by omega)
theorem AmSt.ext (h : AmSt w wr g g5 A c A' c' d fp fp') (hg : g < w.heap.size) (k : Ext wr w2) : AmSt w w2 g g5 A c A' c' d fp fp' := h.keep hg (TchF.of_ext k (fp := [])) (by simp)
theorem AmSt.curs (h : AmSt w wr g g5 A c A' c' d fp fp') (hg : g < w.heap.size) (k : TchF [g] wr w2) : AmSt w w2 g g5 A c A' c' d fp fp' := h.keep hg k (fun i hi => .inl (by simpa using hi))
theorem AmSt.fr (h : AmSt w wr g g5 A c A' c' d fp fp') : kM.fr wr (w.heap.size + 1) wr.heap.size (.agg #[.slice A d.1.length c, .slice A' d.2.length c']) d :=
  kM.mk h.og h.oc rfl rfl (fun i hi => ⟨(h.bg i hi).1, h.og.lt i hi⟩) (fun i hi => ⟨(h.bc i hi).1, h.oc.lt i hi⟩) h.dj
/-- A number stored among the grades, or among the marks of components. -/
theorem AmSt.setG {k j gx : Nat} {x : List Int} {z : Int} (h : AmSt w wr g g5 A c A' c' d fp fp') (hl : LO kdL 36 (wr.setCell ⟨gx, j, none⟩ (.int .i64 z)) A c (d.1.set k (x.set j z)) fp) (hm : gx ∈ fp) : AmSt w (wr.setCell ⟨gx, j, none⟩ (.int .i64 z)) g g5 A c A' c' (d.1.set k (x.set j z), d.2) fp fp' where
  b0 := h.b0.far (by have := (h.bg gx hm).1; simp; omega) _
  b5 := by have := h.b5.far (p := ⟨gx, j, none⟩) (Ne.symm (h.bg gx hm).2) (.int .i64 z); simpa using this
  og := hl
  oc := h.oc.keep fun i hi => Below.heap_setCell _ _ _ _ (fun (e : i = gx) => h.dj gx hm (e ▸ hi))
  bg := h.bg
  bc := h.bc
  dj := h.dj
  h5 := h.h5
  tch := h.tch.step (TchF.setCell wr ⟨gx, j, none⟩ (.int .i64 z) (fp := [gx]) (by simp)) fun i hi => .inr (by have := (h.bg gx hm).1; simp at hi; omega)
theorem AmSt.setC {k j gx : Nat} {x : List Int} {z : Int} (h : AmSt w wr g g5 A c A' c' d fp fp') (hl : LO kdL 36 (wr.setCell ⟨gx, j, none⟩ (.int .i64 z)) A' c' (d.2.set k (x.set j z)) fp') (hm : gx ∈ fp') : AmSt w (wr.setCell ⟨gx, j, none⟩ (.int .i64 z)) g g5 A c A' c' (d.1, d.2.set k (x.set j z)) fp fp' where
  b0 := h.b0.far (by have := (h.bc gx hm).1; simp; omega) _
  b5 := by have := h.b5.far (p := ⟨gx, j, none⟩) (Ne.symm (h.bc gx hm).2) (.int .i64 z); simpa using this
  og := h.og.keep fun i hi => Below.heap_setCell _ _ _ _ (fun (e : i = gx) => h.dj i hi (e ▸ hm))
  oc := hl
  bg := h.bg
  bc := h.bc
  dj := h.dj
  h5 := h.h5
  tch := h.tch.step (TchF.setCell wr ⟨gx, j, none⟩ (.int .i64 z) (fp := [gx]) (by simp)) fun i hi => .inr (by have := (h.bc gx hm).1; simp at hi; omega)
end
/-- The result stored in its own cells. -/
theorem ret_two {w wr : World} {g lo N : Nat} {v u0 u1 : Value} {d : MD} (h : RdA kM lo wr v d) (hl : w.heap.size < lo) (hc : Cur wr g N) (hg : g < w.heap.size) (ht : TchF [g] w wr) :
    RdA kM w.heap.size ((wr.setCell ⟨w.heap.size, 0, none⟩ u0).setCell ⟨w.heap.size, 1, none⟩ u1) v d ∧ Cur ((wr.setCell ⟨w.heap.size, 0, none⟩ u0).setCell ⟨w.heap.size, 1, none⟩ u1) g N ∧ TchF [g] w ((wr.setCell ⟨w.heap.size, 0, none⟩ u0).setCell ⟨w.heap.size, 1, none⟩ u1) := by
  have t2 := (TchF.put wr ⟨w.heap.size, 0, none⟩ u0 (fp := [w.heap.size]) (by simp)).trans (TchF.put (wr.setCell ⟨w.heap.size, 0, none⟩ u0) ⟨w.heap.size, 1, none⟩ u1 (fp := [w.heap.size]) (by simp))
  exact ⟨((h.far (by simpa using hl) u0).far (by simpa using hl) u1).mono (by omega), hc.tchF t2 (fun i hi => by simp at hi; omega), ht.step t2 (fun i hi => .inr (by simp at hi; omega))⟩
end Go.Proofs.Ytifdpmpconjhmaa
