/- A sheet under way: where the votes of an item lie, for all callers at once. -/
import Derived.Test.YtofmfagdaiphaaaJD
namespace Go.Proofs.Ytofmfagdaiphaaa
open Go.RowKit Go.Sort
set_option linter.unusedVariables false

/-- The cells that lead to the votes of item i. -/
def RowsV (gv : Nat) (v1 d1 v2 d2 : Nat → Nat) (n m i : Nat) (w : World) : Prop :=
  (∀ cl : Nat, cl < 3 → w.cell? ⟨gv, cl, none⟩ = some (.slice (some ⟨v1 cl, 0, none⟩) n (d1 cl))) ∧ ∀ cl : Nat, cl < 3 → w.cell? ⟨v1 cl, i, none⟩ = some (.slice (some ⟨v2 cl, 0, none⟩) m (d2 cl))
section
variable {w1 w w' wx : World} {g M M' b n ci nv cv nr cr n' m i : Nat} {Ai Av Ar : Option Addr} {xs : List ItD} {vs vs' : List (List (List Int))} {rs : List RvD} {f1 f2 f3 ns : List Nat}
theorem ShU.all3 (h : ShU w1 g M w b n Ai ci xs f1 Av nv cv vs f2 Ar nr cr rs f3) (sh : Shp ns vs) (hn : ns.length = n') (hi : i < n') (hm : ns.getD i 0 = m) (mp : 0 < m) :
    ∃ (gv : Nat) (v1 d1 v2 d2 : Nat → Nat), Av = some ⟨gv, 0, none⟩ ∧ RowsV gv v1 d1 v2 d2 n' m i w ∧ ∀ cl, cl < 3 → ∃ v x, vs[cl]? = some v ∧ v[i]? = some x ∧ 0 < x.length ∧ SpV w w1 Av f2 gv (v1 cl) (d1 cl) (v2 cl) (d2 cl) n' m cl i 0 := by
  subst hn hm
  have key : ∀ cl, ∃ q : Nat × Nat × Nat × Nat × Nat, cl < 3 → ∃ v x, vs[cl]? = some v ∧ v[i]? = some x ∧ 0 < x.length ∧ SpV w w1 Av f2 q.1 q.2.1 q.2.2.1 q.2.2.2.1 q.2.2.2.2 ns.length (ns.getD i 0) cl i 0 := fun cl => by
    by_cases hc : cl < 3
    · obtain ⟨v, x, hv, hx, hvl, hxl⟩ := sh.spot hc hi
      obtain ⟨gv, v1, c1, v2, c2, sp⟩ := h.spv hv hx (show 0 < x.length by omega) hvl hxl
      exact ⟨(gv, v1, c1, v2, c2), fun _ => ⟨v, x, hv, hx, by omega, sp⟩⟩
    · exact ⟨(0, 0, 0, 0, 0), fun hh => absurd hh hc⟩
  obtain ⟨f, hf⟩ := Classical.axiomOfChoice key
  obtain ⟨v0, x0, -, -, -, s0⟩ := hf 0 (by omega)
  have same : ∀ cl, cl < 3 → (f cl).1 = (f 0).1 := fun cl hc => by
    obtain ⟨v, x, -, -, -, s⟩ := hf cl hc
    have := s.av.symm.trans s0.av
    simpa using this
  refine ⟨(f 0).1, fun c => (f c).2.1, fun c => (f c).2.2.1, fun c => (f c).2.2.2.1, fun c => (f c).2.2.2.2, s0.av, ⟨fun cl hc => ?_, fun cl hc => ?_⟩, fun cl hc => ?_⟩
  · obtain ⟨v, x, hv, hx, hl, s⟩ := hf cl hc
    rw [same cl hc] at s
    exact s.h0
  · obtain ⟨v, x, hv, hx, hl, s⟩ := hf cl hc
    exact s.h1
  · obtain ⟨v, x, hv, hx, hl, s⟩ := hf cl hc
    rw [same cl hc] at s
    exact ⟨v, x, hv, hx, hl, s⟩
/-- A number stored somewhere: where a slice stands behind it, it stood before. -/
theorem slice_kept {w : World} {p q : Addr} {z : Int} {A : Option Addr} {n c : Nat} (h : (w.setCell q (.int .i64 z)).cell? p = some (.slice A n c)) (hq : q.spot = none) (hp : p.spot = none) : w.cell? p = some (.slice A n c) := by
  by_cases e : p = q
  · subst e
    exfalso
    unfold World.cell? World.setCell at h
    simp only [hp, Option.isSome_none, Bool.false_eq_true, if_false] at h
    split at h
    · next cs t f hb =>
      rw [Array.getElem?_modify] at hb
      simp only [if_true] at hb
      cases ho : w.heap[p.block]? with
      | none => rw [ho] at hb; cases hb
      | some o =>
        rw [ho] at hb
        cases o with
        | cells cs0 t0 f0 =>
          simp at hb
          obtain ⟨rfl, -, -⟩ := hb
          rw [Array.getElem?_setIfInBounds] at h
          simp only [if_true] at h
          split at h
          · simp at h
          · cases h
        | _ => simp at hb
    · cases h
  · rw [← h]
    symm
    by_cases hb : p.block = q.block
    · obtain ⟨pb, po, ps⟩ := p
      obtain ⟨qb, qo, qs⟩ := q
      simp only at hb hq hp
      subst hb hq hp
      have ho : po ≠ qo := fun e2 => e (by rw [e2])
      simp [World.cell?, World.setCell, Array.getElem?_modify]
      cases w.heap[pb]? with
      | none => rfl
      | some o => cases o <;> simp [Array.getElem?_setIfInBounds, Ne.symm ho]
    · exact World.cell?_of_block (Below.heap_setCell _ _ _ _ hb)
theorem RowsV.put {gv : Nat} {v1 d1 v2 d2 : Nat → Nat} {z : Int} {q : Addr} (r : RowsV gv v1 d1 v2 d2 n' m i w) (av : Av = some ⟨gv, 0, none⟩) (h' : ShU w1 g M (w.setCell q (.int .i64 z)) b n Ai ci xs f1 Av nv cv vs' f2 Ar nr cr rs f3) (sh' : Shp ns vs') (hn : ns.length = n') (hi : i < n') (hm : ns.getD i 0 = m) (mp : 0 < m) (hq : q.spot = none) :
    RowsV gv v1 d1 v2 d2 n' m i (w.setCell q (.int .i64 z)) := by
  obtain ⟨gv', v1', d1', v2', d2', av', r', -⟩ := h'.all3 sh' hn hi hm mp
  have e0 := av.symm.trans av'
  simp only [Option.some.injEq, Addr.mk.injEq, and_true] at e0
  subst e0
  refine ⟨fun cl hc => ?_, fun cl hc => ?_⟩
  · have a := r'.1 cl hc
    rw [a, ← slice_kept a hq rfl, r.1 cl hc]
  · have a := r'.1 cl hc
    have e1 := (slice_kept a hq rfl).symm.trans (r.1 cl hc)
    simp only [Option.some.injEq, Value.slice.injEq, Addr.mk.injEq, and_true, true_and] at e1
    have a2 := r'.2 cl hc
    rw [e1.1] at a2
    rw [a2, ← slice_kept a2 hq rfl, r.2 cl hc]
end
end Go.Proofs.Ytofmfagdaiphaaa
