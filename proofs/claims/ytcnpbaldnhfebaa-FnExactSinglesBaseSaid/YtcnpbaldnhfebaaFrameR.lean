/- Arguments of the laws opened: codes, items, lists of items. -/
import Derived.Test.YtcnpbaldnhfebaaFrameN
import Derived.Test.YtcnpbaldnhfebaaGR
namespace Go.Proofs.Ytcnpbaldnhfebaa
open Go.ChangeShapes Go.WideShapes Go.ChangeAt Go.RowKit Go.Deep Go.Joins

section
variable {H : Type} {enc : TypeId × Value → H} {W : World}
set_option maxRecDepth 100000 in
theorem opens4 {α β γ δ : Type} {K0 : Kd α} {K1 : Kd β} {K2 : Kd γ} {K3 : Kd δ} {t : TypeId} {f0 f1 f2 f3 : Field} (hs : Try.prog.underlying t = some (.struct #[f0, f1, f2, f3])) (hC : Try.prog.cellsOf t = 4)
    (o0 : f0.offset = 0) (o1 : f1.offset = 1) (o2 : f2.offset = 2) (o3 : f3.offset = 3) (k0 : Try.prog.cellsOf f0.type = 1) (k1 : Try.prog.cellsOf f1.type = 1) (k2 : Try.prog.cellsOf f2.type = 1) (k3 : Try.prog.cellsOf f3.type = 1)
    (h0 : Opens enc W K0 f0.type) (h1 : Opens enc W K1 f1.type) (h2 : Opens enc W K2 f2.type) (h3 : Opens enc W K3 f3.type) : Opens enc W (kdPair K0 (kdPair K1 (kdPair K2 K3))) t := by
  intro fuel cs x h
  obtain ⟨xs, n, _, _, hl, hxl, hf⟩ := DataW.trod_struct hs h
  rw [hC] at hl
  obtain ⟨a, b, c, d, rfl⟩ : ∃ a b c d, cs = [a, b, c, d] := by
    rcases cs with _ | ⟨a, _ | ⟨b, _ | ⟨c, _ | ⟨d, _ | ⟨q, r⟩⟩⟩⟩⟩
    all_goals first | exact ⟨_, _, _, _, rfl⟩ | (simp only [List.length] at hl; omega)
  have e0 := hf 0 f0 rfl
  have e1 := hf 1 f1 rfl
  have e2 := hf 2 f2 rfl
  have e3 := hf 3 f3 rfl
  rw [o0, k0, List.getElem?_eq_getElem (by rw [hxl]; simp)] at e0
  rw [o1, k1, List.getElem?_eq_getElem (by rw [hxl]; simp)] at e1
  rw [o2, k2, List.getElem?_eq_getElem (by rw [hxl]; simp)] at e2
  rw [o3, k3, List.getElem?_eq_getElem (by rw [hxl]; simp)] at e3
  obtain ⟨d0, r0⟩ := h0 _ _ _ e0
  obtain ⟨d1, r1⟩ := h1 _ _ _ e1
  obtain ⟨d2, r2⟩ := h2 _ _ _ e2
  obtain ⟨d3, r3⟩ := h3 _ _ _ e3
  exact ⟨(d0, d1, d2, d3), [a], [b, c, d], rfl, r0, [b], [c, d], rfl, r1, [c], [d], rfl, r2, r3⟩
set_option maxRecDepth 100000 in
theorem opens6 {α β γ δ ε ζ : Type} {K0 : Kd α} {K1 : Kd β} {K2 : Kd γ} {K3 : Kd δ} {K4 : Kd ε} {K5 : Kd ζ} {t : TypeId} {f0 f1 f2 f3 f4 f5 : Field} (hs : Try.prog.underlying t = some (.struct #[f0, f1, f2, f3, f4, f5])) (hC : Try.prog.cellsOf t = 6)
    (o0 : f0.offset = 0) (o1 : f1.offset = 1) (o2 : f2.offset = 2) (o3 : f3.offset = 3) (o4 : f4.offset = 4) (o5 : f5.offset = 5) (k0 : Try.prog.cellsOf f0.type = 1) (k1 : Try.prog.cellsOf f1.type = 1) (k2 : Try.prog.cellsOf f2.type = 1) (k3 : Try.prog.cellsOf f3.type = 1) (k4 : Try.prog.cellsOf f4.type = 1) (k5 : Try.prog.cellsOf f5.type = 1)
    (h0 : Opens enc W K0 f0.type) (h1 : Opens enc W K1 f1.type) (h2 : Opens enc W K2 f2.type) (h3 : Opens enc W K3 f3.type) (h4 : Opens enc W K4 f4.type) (h5 : Opens enc W K5 f5.type) : Opens enc W (kdPair K0 (kdPair K1 (kdPair K2 (kdPair K3 (kdPair K4 K5))))) t := by
  intro fuel cs x h
  obtain ⟨xs, n, _, _, hl, hxl, hf⟩ := DataW.trod_struct hs h
  rw [hC] at hl
  obtain ⟨a, b, c, d, e, f, rfl⟩ : ∃ a b c d e f, cs = [a, b, c, d, e, f] := by
    rcases cs with _ | ⟨a, _ | ⟨b, _ | ⟨c, _ | ⟨d, _ | ⟨e, _ | ⟨f, _ | ⟨q, r⟩⟩⟩⟩⟩⟩⟩
    all_goals first | exact ⟨_, _, _, _, _, _, rfl⟩ | (simp only [List.length] at hl; omega)
  have e0 := hf 0 f0 rfl
  have e1 := hf 1 f1 rfl
  have e2 := hf 2 f2 rfl
  have e3 := hf 3 f3 rfl
  have e4 := hf 4 f4 rfl
  have e5 := hf 5 f5 rfl
  rw [o0, k0, List.getElem?_eq_getElem (by rw [hxl]; simp)] at e0
  rw [o1, k1, List.getElem?_eq_getElem (by rw [hxl]; simp)] at e1
  rw [o2, k2, List.getElem?_eq_getElem (by rw [hxl]; simp)] at e2
  rw [o3, k3, List.getElem?_eq_getElem (by rw [hxl]; simp)] at e3
  rw [o4, k4, List.getElem?_eq_getElem (by rw [hxl]; simp)] at e4
  rw [o5, k5, List.getElem?_eq_getElem (by rw [hxl]; simp)] at e5
  obtain ⟨d0, r0⟩ := h0 _ _ _ e0
  obtain ⟨d1, r1⟩ := h1 _ _ _ e1
  obtain ⟨d2, r2⟩ := h2 _ _ _ e2
  obtain ⟨d3, r3⟩ := h3 _ _ _ e3
  obtain ⟨d4, r4⟩ := h4 _ _ _ e4
  obtain ⟨d5, r5⟩ := h5 _ _ _ e5
  exact ⟨(d0, d1, d2, d3, d4, d5), [a], [b, c, d, e, f], rfl, r0, [b], [c, d, e, f], rfl, r1, [c], [d, e, f], rfl, r2, [d], [e, f], rfl, r3, [e], [f], rfl, r4, r5⟩
theorem opens_num {t : TypeId} (ht : Try.prog.underlying t = some (.int .i64)) : Opens enc W kdNum t := by
  intro fuel cs x h
  obtain ⟨n, rfl, _, _⟩ := DataW.trod_int ht h
  exact ⟨n, rfl⟩
set_option maxRecDepth 100000 in
theorem opens_el : Opens enc W kdEl 68 :=
  opens4 Try.underlying68 (by kernel_rfl) rfl rfl rfl rfl (by kernel_rfl) (by kernel_rfl) (by kernel_rfl) (by kernel_rfl)
    (opens_str Try.underlying9) (opens_int Try.underlying3) (opens_int Try.underlying3) (opens_int Try.underlying3)
set_option maxRecDepth 100000 in
theorem opens_code : Opens enc W kdCo 25 :=
  opens6 Try.underlying25 (by kernel_rfl) rfl rfl rfl rfl rfl rfl (by kernel_rfl) (by kernel_rfl) (by kernel_rfl) (by kernel_rfl) (by kernel_rfl) (by kernel_rfl)
    (opens_list Try.underlying22 (by show _ = 4; kernel_rfl) (by decide) opens_el)
    (opens_list Try.underlying23 (by show _ = 1; kernel_rfl) (by decide) (opens_int Try.underlying3))
    (opens_num Try.underlying3) (opens_num Try.underlying3) (opens_num Try.underlying3) (opens_num Try.underlying3)
set_option maxRecDepth 100000 in
theorem open_argC {r : Reach} {b0 : Nat} {v : Value} {d : DataW H} {p : List MemPlace} (hv : Value.okWide Try.prog W r b0 25 v) (h : DataW.Trod enc Try.prog W 0 (fun _ => true) true 25 v d p) : ∃ z, kC.rd W v z := by
  obtain ⟨vs, z, rfl, hz⟩ := open_arg (K := kdCo) Try.underlying25 opens_code (fun _ => rfl) hv h
  exact ⟨z, vs, rfl, hz⟩
end
end Go.Proofs.Ytcnpbaldnhfebaa
