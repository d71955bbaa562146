/- Marks under way: rows of the call's own appended to one list or the other. -/
import Derived.Test.YtnokilofcdbjhaaGreatDoorGM
import Derived.Test.YtnokilofcdbjhaaGreatDoorXH
namespace Go.Proofs.YtnokilofcdbjhaaGreatDoor
open Go.RowKit Go.Sort
set_option linter.unusedVariables false

theorem TchF.putX {fp : List Nat} (w : World) (p : Addr) (v : Value) (hp : p.block ∈ fp) : TchF fp w (w.setCell p v) :=
  ⟨rfl, rfl, rfl, by simp [World.setCell], fun k hk hn => Below.heap_setCell _ _ _ _ (fun e => hn (e ▸ hp))⟩
structure MkU (w0 w : World) (g2 g6 : Nat) (A1 : Option Addr) (c1 : Nat) (gs : List (List Int)) (f1 : List Nat) (A2 : Option Addr) (c2 : Nat) (cs : List (List Int)) (f2 : List Nat) : Prop where
  x : Ext w0 w
  b2 : Blk w g2 #[.slice none 0 0, .slice none 0 0] 25
  b6 : Blk w g6 #[.slice A1 gs.length c1, .slice A2 cs.length c2] 25
  l1 : LO kdL 31 w A1 c1 gs f1
  l2 : LO kdL 31 w A2 c2 cs f2
  h1 : ∀ i ∈ f1, w0.heap.size ≤ i ∧ i ≠ g2 ∧ i ≠ g6 ∧ i ∉ f2
  h2 : ∀ i ∈ f2, w0.heap.size ≤ i ∧ i ≠ g2 ∧ i ≠ g6
  hg : w0.heap.size ≤ g6 ∧ g2 ≠ g6
section
variable {w0 w w' wL : World} {g2 g6 : Nat} {A1 A2 : Option Addr} {c1 c2 : Nat} {gs cs : List (List Int)} {f1 f2 : List Nat}
theorem MkU.ext (h : MkU w0 w g2 g6 A1 c1 gs f1 A2 c2 cs f2) (k : Ext w w') : MkU w0 w' g2 g6 A1 c1 gs f1 A2 c2 cs f2 :=
  ⟨h.x.trans k, h.b2.ext k, h.b6.ext k, h.l1.ext k, h.l2.ext k, h.h1, h.h2, h.hg⟩
theorem Ext.tchX {fp : List Nat} (h : Ext w0 w) (k : TchF fp w w') (hf : ∀ i ∈ fp, w0.heap.size ≤ i) : Ext w0 w' := h.tchF k hf
/-- A row appended to the grades. -/
theorem MkU.app1 {wr : World} {A' : Option Addr} {k c' lo : Nat} {zs : List Int} {A3 : Option Addr} {c3 : Nat} {f3 : List Nat} (h : MkU w0 wr g2 g6 A1 c1 gs f1 A2 c2 cs f2) (x : Ext wr wL) (o : OwnI 3 wL lo A' k c' zs) (hlo : wr.heap.size ≤ lo)
    (hap : ApL kdL 31 wL f1 (A'.map (·.block)).toList w' A3 c3 (gs ++ [zs]) f3) :
    Blk w' g6 #[.slice A1 gs.length c1, .slice A2 cs.length c2] 25 ∧ MkU w0 (w'.setCell ⟨g6, 0, none⟩ (.slice A3 (gs.length + 1) c3)) g2 g6 A3 c3 (gs ++ [zs]) f3 A2 c2 cs f2 := by
  have sz := x.size
  have sx := h.x.size
  have l6 := h.b6.lt
  have l2 := h.b2.lt
  obtain ⟨q2, q3⟩ := h.hg
  have t := hap.tch
  have n6 : g6 ∉ f1 := fun hm => (h.h1 _ hm).2.2.1 rfl
  have n2 : g2 ∉ f1 := fun hm => (h.h1 _ hm).2.1 rfl
  have hA : ∀ i ∈ (A'.map (·.block)).toList, wr.heap.size ≤ i := fun i hi => by
    cases A' with
    | none => simp at hi
    | some a => simp at hi; subst hi; exact Nat.le_trans hlo (Own.fromLo o a rfl)
  have b6 := (h.b6.ext x).tchF t n6
  have b2 := (h.b2.ext x).tchF t n2
  have sub : ∀ i ∈ f3, w0.heap.size ≤ i ∧ i ≠ g2 ∧ i ≠ g6 ∧ i ∉ f2 := fun i hi => by
    rcases hap.sub i hi with e | e | e
    · exact h.h1 i e
    · have := hA i e
      exact ⟨by omega, by omega, by omega, fun hm => by have := h.l2.lt i hm; omega⟩
    · exact ⟨by omega, by omega, by omega, fun hm => by have := h.l2.lt i hm; omega⟩
  have far : ∀ i, i ≠ g6 → (w'.setCell ⟨g6, 0, none⟩ (.slice A3 (gs.length + 1) c3)).heap[i]? = w'.heap[i]? := fun i hi => Below.heap_setCell _ _ _ _ hi
  refine ⟨b6, ⟨Ext.tchX ((h.x.trans x).tchX t (fun i hi => (h.h1 i hi).1)) (TchF.putX w' ⟨g6, 0, none⟩ (.slice A3 (gs.length + 1) c3) (fp := [g6]) (by simp)) (by simpa using q2), b2.far (by simpa using q3) _, by rw [List.length_append]; exact b6.set 0 _, hap.own.keep fun i hi => far i (sub i hi).2.2.1, ?_, sub, h.h2, h.hg⟩⟩
  exact ((h.l2.ext x).keep fun i hi => t.block i (by have := h.l2.lt i hi; omega) (fun hm => (h.h1 i hm).2.2.2 hi)).keep fun i hi => far i (h.h2 i hi).2.2
/-- A row appended to the marks of the components. -/
theorem MkU.app2 {wr : World} {A' : Option Addr} {k c' lo : Nat} {zs : List Int} {A3 : Option Addr} {c3 : Nat} {f3 : List Nat} (h : MkU w0 wr g2 g6 A1 c1 gs f1 A2 c2 cs f2) (x : Ext wr wL) (o : OwnI 3 wL lo A' k c' zs) (hlo : wr.heap.size ≤ lo)
    (hap : ApL kdL 31 wL f2 (A'.map (·.block)).toList w' A3 c3 (cs ++ [zs]) f3) :
    Blk w' g6 #[.slice A1 gs.length c1, .slice A2 cs.length c2] 25 ∧ MkU w0 (w'.setCell ⟨g6, 1, none⟩ (.slice A3 (cs.length + 1) c3)) g2 g6 A1 c1 gs f1 A3 c3 (cs ++ [zs]) f3 := by
  have sz := x.size
  have sx := h.x.size
  have l6 := h.b6.lt
  have l2 := h.b2.lt
  obtain ⟨q2, q3⟩ := h.hg
  have t := hap.tch
  have n6 : g6 ∉ f2 := fun hm => (h.h2 _ hm).2.2 rfl
  have n2 : g2 ∉ f2 := fun hm => (h.h2 _ hm).2.1 rfl
  have hA : ∀ i ∈ (A'.map (·.block)).toList, wr.heap.size ≤ i := fun i hi => by
    cases A' with
    | none => simp at hi
    | some a => simp at hi; subst hi; exact Nat.le_trans hlo (Own.fromLo o a rfl)
  have b6 := (h.b6.ext x).tchF t n6
  have b2 := (h.b2.ext x).tchF t n2
  have sub : ∀ i ∈ f3, w0.heap.size ≤ i ∧ i ≠ g2 ∧ i ≠ g6 ∧ i ∉ f1 := fun i hi => by
    rcases hap.sub i hi with e | e | e
    · exact ⟨(h.h2 i e).1, (h.h2 i e).2.1, (h.h2 i e).2.2, fun hm => (h.h1 i hm).2.2.2 e⟩
    · have := hA i e
      exact ⟨by omega, by omega, by omega, fun hm => by have := h.l1.lt i hm; omega⟩
    · exact ⟨by omega, by omega, by omega, fun hm => by have := h.l1.lt i hm; omega⟩
  have far : ∀ i, i ≠ g6 → (w'.setCell ⟨g6, 1, none⟩ (.slice A3 (cs.length + 1) c3)).heap[i]? = w'.heap[i]? := fun i hi => Below.heap_setCell _ _ _ _ hi
  refine ⟨b6, ⟨Ext.tchX ((h.x.trans x).tchX t (fun i hi => (h.h2 i hi).1)) (TchF.putX w' ⟨g6, 1, none⟩ (.slice A3 (cs.length + 1) c3) (fp := [g6]) (by simp)) (by simpa using q2), b2.far (by simpa using q3) _, by rw [List.length_append]; exact b6.set 1 _, ?_, hap.own.keep fun i hi => far i (sub i hi).2.2.1, fun i hi => ⟨(h.h1 i hi).1, (h.h1 i hi).2.1, (h.h1 i hi).2.2.1, fun hm => (sub i hm).2.2.2 hi⟩, fun i hi => ⟨(sub i hi).1, (sub i hi).2.1, (sub i hi).2.2.1⟩, h.hg⟩⟩
  exact ((h.l1.ext x).keep fun i hi => t.block i (by have := h.l1.lt i hi; omega) (fun hm => (h.h1 i hi).2.2.2 hm)).keep fun i hi => far i (h.h1 i hi).2.2.1
/-- What is under way, read. -/
theorem MkU.rd (h : MkU w0 w g2 g6 A1 c1 gs f1 A2 c2 cs f2) : kM.rd w (.agg #[.slice A1 gs.length c1, .slice A2 cs.length c2]) (gs, cs) :=
  ⟨_, rfl, _, _, rfl, ⟨A1, c1, rfl, h.l1.rd⟩, ⟨A2, c2, rfl, h.l2.rd⟩⟩
theorem MkU.fr (h : MkU w0 w g2 g6 A1 c1 gs f1 A2 c2 cs f2) : kM.fr w w0.heap.size w.heap.size (.agg #[.slice A1 gs.length c1, .slice A2 cs.length c2]) (gs, cs) :=
  kM.mk (d := (gs, cs)) h.l1 h.l2 rfl rfl (fun i hi => ⟨(h.h1 i hi).1, h.l1.lt i hi⟩) (fun i hi => ⟨(h.h2 i hi).1, h.l2.lt i hi⟩) (fun i hi => (h.h1 i hi).2.2.2)
end
end Go.Proofs.YtnokilofcdbjhaaGreatDoor
