/- Arguments of the laws opened, kind by kind. -/
import Derived.Test.YtcnpbaldnhfebaaFrame
import Derived.Test.YtcnpbaldnhfebaaGN
import Derived.Deep.Matrix
import Derived.Deep.Slices
import Derived.Lib.SmallJoins
namespace Go.Proofs.Ytcnpbaldnhfebaa
open Go.ChangeShapes Go.WideShapes Go.ChangeAt Go.RowKit Go.Deep Go.Joins

section
variable {H : Type} (enc : TypeId × Value → H) (W : World)
/-- Whatever lies there as a value of type t reads as a datum of the kind. -/
def Opens {α : Type} (K : Kd α) (t : TypeId) : Prop := ∀ (fuel : Nat) (cs : List Value) (x : DataW H × List MemPlace), DataW.trod enc Try.prog W 0 (fun _ => true) true fuel t cs = some x → ∃ d, K.rd W W.heap.size cs d
end
section
variable {H : Type} {enc : TypeId × Value → H} {W : World}
theorem opens_int {t : TypeId} (ht : Try.prog.underlying t = some (.int .i64)) : Opens enc W kdInt t := by
  intro fuel cs x h
  obtain ⟨n, rfl, _, _⟩ := DataW.trod_int ht h
  exact ⟨n, rfl⟩
theorem opens_late {t : TypeId} (ht : Try.prog.underlying t = some .bool) : Opens enc W kdLate t := by
  intro fuel cs x h
  obtain ⟨n, rfl, _⟩ := DataW.trod_bool ht h
  exact ⟨n, rfl⟩
theorem opens_str {t : TypeId} (ht : Try.prog.underlying t = some .string) : Opens enc W kdS t := by
  intro fuel cs x h
  obtain ⟨s, rfl, _, hs⟩ := DataW.trod_string ht h
  refine ⟨s.data.toList, ?_, ?_⟩
  · show [Value.string s] = [.string (bs s.data.toList)]
    rfl
  · have : s.data.toList.length = s.size := rfl
    unfold maxLen at hs
    omega
theorem opens_list {α : Type} {K : Kd α} {t e e' : TypeId} (ht : Try.prog.underlying t = some (.slice e)) (hC : Try.prog.cellsOf e = K.size) (hs : 0 < K.size) (hK : Opens enc W K e) : Opens enc W (kdList e' K) t := by
  intro fuel cs x h
  rcases open_slice ht h with ⟨rfl, _⟩ | ⟨a, len, cap, m, n, D, Pl, rfl, _, hl, hm, hmm, _, hi⟩
  · exact ⟨[], none, 0, rfl, by simp, by simp, fun k x hx => by simp at hx⟩
  · rw [if_pos rfl] at hmm
    subst hmm
    have h1 : ∀ i : Fin len, ∃ (q : List Value × α), W.cells? 0 (a.add (i.val * K.size)) K.size = some q.1 ∧ K.rd W W.heap.size q.1 q.2 := by
      intro i
      obtain ⟨cs', hc, ht'⟩ := hi i.val (by omega)
      obtain ⟨d, hd⟩ := hK _ _ _ ht'
      rw [hC] at hc
      exact ⟨(cs', d), hc, hd⟩
    have hf := fun i => Classical.choose_spec (h1 i)
    have hlen : (List.ofFn fun i => (Classical.choose (h1 i)).2).length = len := by simp
    refine ⟨List.ofFn fun i => (Classical.choose (h1 i)).2, some a, m, by rw [hlen], by rw [hlen]; exact hl, by unfold maxLen at hm; omega, fun k y hk => ?_⟩
    have hkl : k < len := by have := (List.getElem?_eq_some_iff.1 hk).1; simpa using this
    have hy : y = (Classical.choose (h1 ⟨k, hkl⟩)).2 := by
      rw [List.getElem?_ofFn, dif_pos hkl] at hk
      simpa using hk.symm
    obtain ⟨_, hcl, hat⟩ := World.cells?_some (hf ⟨k, hkl⟩).1
    obtain ⟨b, off, rfl⟩ : ∃ b off, a = ⟨b, off, none⟩ := by
      obtain ⟨b, off, spot⟩ := a
      obtain ⟨_, hcl0, hat0⟩ := World.cells?_some (hf ⟨0, by omega⟩).1
      have h9 := hat0 0 hs
      rw [List.getElem?_eq_getElem (by omega)] at h9
      have h8 : spot = none := by simpa [Addr.add] using World.cell?_spot h9
      exact ⟨b, off, by rw [h8]⟩
    have hcell : ∀ j u, (Classical.choose (h1 ⟨k, hkl⟩)).1[j]? = some u → W.cell? ⟨b, off + (k * K.size + j), none⟩ = some u := by
      intro j u hu
      have hj := (List.getElem?_eq_some_iff.1 hu).1
      have h9 := hat j (by omega)
      rw [hu, add_none, add_none] at h9
      rw [← Nat.add_assoc]
      exact h9
    refine ⟨b, off, (Classical.choose (h1 ⟨k, hkl⟩)).1, rfl, ?_, by rw [hy]; exact (hf ⟨k, hkl⟩).2, hcell⟩
    exact World.block_lt_of_cell? W _ (hcell 0 _ (List.getElem?_eq_getElem (by omega)))
set_option maxRecDepth 100000 in
theorem opens3 {α β γ : Type} {K0 : Kd α} {K1 : Kd β} {K2 : Kd γ} {t : TypeId} {f0 f1 f2 : Field} (hs : Try.prog.underlying t = some (.struct #[f0, f1, f2])) (hC : Try.prog.cellsOf t = 3)
    (o0 : f0.offset = 0) (o1 : f1.offset = 1) (o2 : f2.offset = 2) (k0 : Try.prog.cellsOf f0.type = 1) (k1 : Try.prog.cellsOf f1.type = 1) (k2 : Try.prog.cellsOf f2.type = 1)
    (h0 : Opens enc W K0 f0.type) (h1 : Opens enc W K1 f1.type) (h2 : Opens enc W K2 f2.type) : Opens enc W (kdPair K0 (kdPair K1 K2)) t := by
  intro fuel cs x h
  obtain ⟨xs, n, _, _, hl, hxl, hf⟩ := DataW.trod_struct hs h
  rw [hC] at hl
  obtain ⟨a, b, c, rfl⟩ : ∃ a b c, cs = [a, b, c] := by
    rcases cs with _ | ⟨a, _ | ⟨b, _ | ⟨c, _ | ⟨q, r⟩⟩⟩⟩
    all_goals first | exact ⟨_, _, _, rfl⟩ | (simp only [List.length] at hl; omega)
  have e0 := hf 0 f0 rfl
  have e1 := hf 1 f1 rfl
  have e2 := hf 2 f2 rfl
  rw [o0, k0, List.getElem?_eq_getElem (by rw [hxl]; simp)] at e0
  rw [o1, k1, List.getElem?_eq_getElem (by rw [hxl]; simp)] at e1
  rw [o2, k2, List.getElem?_eq_getElem (by rw [hxl]; simp)] at e2
  obtain ⟨d0, r0⟩ := h0 _ _ _ e0
  obtain ⟨d1, r1⟩ := h1 _ _ _ e1
  obtain ⟨d2, r2⟩ := h2 _ _ _ e2
  exact ⟨(d0, d1, d2), [a], [b, c], rfl, r0, [b], [c], rfl, r1, r2⟩
set_option maxRecDepth 100000 in
theorem open_arg {α : Type} {K : Kd α} {r : Reach} {b0 : Nat} {t : TypeId} {fs : Array Field} {v : Value} {d : DataW H} {p : List MemPlace} (hs : Try.prog.underlying t = some (.struct fs)) (hK : Opens enc W K t) (hval : ∀ cs : List Value, K.val cs = .agg cs.toArray)
    (hv : Value.okWide Try.prog W r b0 t v) (h : DataW.Trod enc Try.prog W 0 (fun _ => true) true t v d p) : ∃ vs z, v = K.val vs ∧ K.rd W W.heap.size vs z := by
  obtain ⟨cs, rfl, hsz⟩ := okWide_struct hs hv
  obtain ⟨fuel, hf⟩ := h
  obtain ⟨z, hz⟩ := hK _ _ _ hf
  exact ⟨cs.toList, z, by rw [hval], hz⟩
end
end Go.Proofs.Ytcnpbaldnhfebaa
