/- Arguments of the laws opened: marks beside codes and items. -/
import Derived.Test.YtcmoedjcokkdcaaGreatFrameR
import Derived.Test.YtcmoedjcokkdcaaGreatML
namespace Go.Proofs.YtcmoedjcokkdcaaGreat
open Go.ChangeShapes Go.WideShapes Go.ChangeAt Go.RowKit Go.Deep Go.Joins

section
variable {H : Type} {enc : TypeId × Value → H} {W : World}
set_option maxRecDepth 100000 in
theorem opens2 {α β : Type} {K0 : Kd α} {K1 : Kd β} {t : TypeId} {f0 f1 : Field} (hs : Tryz.prog.underlying t = some (.struct #[f0, f1])) (hC : Tryz.prog.cellsOf t = 2)
    (o0 : f0.offset = 0) (o1 : f1.offset = 1) (k0 : Tryz.prog.cellsOf f0.type = 1) (k1 : Tryz.prog.cellsOf f1.type = 1)
    (h0 : Opens enc W K0 f0.type) (h1 : Opens enc W K1 f1.type) : Opens enc W (kdPair K0 K1) t := by
  intro fuel cs x h
  obtain ⟨xs, n, _, _, hl, hxl, hf⟩ := DataW.trod_struct hs h
  rw [hC] at hl
  obtain ⟨a, b, rfl⟩ : ∃ a b, cs = [a, b] := by
    rcases cs with _ | ⟨a, _ | ⟨b, _ | ⟨q, r⟩⟩⟩
    all_goals first | exact ⟨_, _, rfl⟩ | (simp only [List.length] at hl; omega)
  have e0 := hf 0 f0 rfl
  have e1 := hf 1 f1 rfl
  rw [o0, k0, List.getElem?_eq_getElem (by rw [hxl]; simp)] at e0
  rw [o1, k1, List.getElem?_eq_getElem (by rw [hxl]; simp)] at e1
  obtain ⟨d0, r0⟩ := h0 _ _ _ e0
  obtain ⟨d1, r1⟩ := h1 _ _ _ e1
  exact ⟨(d0, d1), [a], [b], rfl, r0, r1⟩
set_option maxRecDepth 100000 in
theorem opens_marks : Opens enc W kdM 29 :=
  opens2 Tryz.underlying29 (by kernel_rfl) rfl rfl (by kernel_rfl) (by kernel_rfl)
    (opens_list Tryz.underlying27 (by show _ = 1; kernel_rfl) (by decide) (opens_list Tryz.underlying23 (by show _ = 1; kernel_rfl) (by decide) (opens_int Tryz.underlying3)))
    (opens_list Tryz.underlying27 (by show _ = 1; kernel_rfl) (by decide) (opens_list Tryz.underlying23 (by show _ = 1; kernel_rfl) (by decide) (opens_int Tryz.underlying3)))
set_option maxRecDepth 100000 in
theorem open_argM {r : Reach} {b0 : Nat} {v : Value} {d : DataW H} {p : List MemPlace} (hv : Value.okWide Tryz.prog W r b0 29 v) (h : DataW.Trod enc Tryz.prog W 0 (fun _ => true) true 29 v d p) : ∃ z, kM.rd W v z := by
  obtain ⟨vs, z, rfl, hz⟩ := open_arg (K := kdM) Tryz.underlying29 opens_marks (fun _ => rfl) hv h
  exact ⟨z, vs, rfl, hz⟩
end
end Go.Proofs.YtcmoedjcokkdcaaGreat
