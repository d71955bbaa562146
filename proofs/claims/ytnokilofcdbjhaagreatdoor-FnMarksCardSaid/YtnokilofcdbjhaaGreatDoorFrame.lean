/- What every law's last step needs, of this seat's program: two closed facts, and arguments opened. -/
import Derived.Test.YtnokilofcdbjhaaGreatDoorRows
import Derived.Test.YtnokilofcdbjhaaGreatDoorGA
import Derived.ProofKit
import Derived.OpenShut
import Derived.ShutString
import Derived.ChangeOld
namespace Go.Proofs.YtnokilofcdbjhaaGreatDoor
open Go.ChangeShapes Go.WideShapes Go.ChangeAt Go.RowKit

theorem own : ownKnob Tryz.prog.godebug = none := by kernel_rfl
theorem laidOut : laidOutB Tryz.prog = true := by kernel_rfl

theorem inr_of_wf {x : Int} (h : (Lit.int .i64 x).wf = true) : InR x := by
  simp [Lit.wf, IntKind.min, IntKind.max, IntKind.signed, IntKind.bits] at h
  unfold InR
  omega

section
variable {H : Type} {enc : TypeId × Value → H} {W : World} {a : Option Addr} {n c : Nat} {d : DataW H} {p : List MemPlace}
theorem open_argI (h : DataW.Trod enc Tryz.prog W 0 (fun _ => true) true 31 (.slice a n c) d p) : ∃ zs, ArgI W a n c zs := by
  obtain ⟨fuel, hf⟩ := h
  rcases open_ints Tryz.underlying31 Tryz.underlying3 (by kernel_rfl) hf with ⟨hcs, _⟩ | ⟨x, l, cp, zs, hcs, _, hl, hm, hz, _, hcell, hwz⟩
  · simp [Value.cells] at hcs
    obtain ⟨rfl, rfl, rfl⟩ := hcs
    exact ⟨[], ⟨rfl, fun h => absurd h (by omega)⟩, Nat.le_refl _, by omega, by simp⟩
  · simp [Value.cells] at hcs
    obtain ⟨rfl, rfl, rfl⟩ := hcs
    have hz' : zs.length = c := by simpa using hz
    refine ⟨zs.take n, ⟨by simp; omega, fun hn => ?_⟩, hl, by unfold maxLen at hm; omega, fun z hz => inr_of_wf (hwz z (List.mem_of_mem_take hz))⟩
    obtain ⟨b, off, spot⟩ := x
    have h0 := hcell 0 (by omega)
    have hs : spot = none := by simpa [Addr.add] using World.cell?_spot h0
    subst hs
    have hb : b < W.heap.size := by
      have := World.block_lt_of_cell? W _ h0
      simpa [Addr.add] using this
    refine ⟨b, off, rfl, hb, fun k u hu => ?_⟩
    have hkl := (List.getElem?_eq_some_iff.1 hu).1
    simp at hkl
    have := hcell k (by omega)
    rw [add_none] at this
    rw [this]
    simp only [List.getElem?_map, List.getElem?_take] at hu
    rw [if_pos (by omega), List.getElem?_eq_getElem (by omega)] at hu
    simp at hu
    rw [← hu]
    simp [List.getElem?_eq_getElem (show k < zs.length by omega)]
end
end Go.Proofs.YtnokilofcdbjhaaGreatDoor
