/- Bytes as an argument of a law, opened. -/
import Derived.Test.YtnokilofcdbjhaaGreatDoorFrame
import Derived.Test.YtnokilofcdbjhaaGreatDoorGD
import Derived.Deep.Slices
namespace Go.Proofs.YtnokilofcdbjhaaGreatDoor
open Go.ChangeShapes Go.WideShapes Go.ChangeAt Go.RowKit Go.Deep

section
variable {H : Type} {enc : TypeId × Value → H} {W : World} {a : Option Addr} {n c : Nat} {d : DataW H} {p : List MemPlace}
theorem open_argBy (h : DataW.Trod enc Tryz.prog W 0 (fun _ => true) true 22 (.slice a n c) d p) : ArgB W a n c := by
  obtain ⟨fuel, hf⟩ := h
  have hC : Tryz.prog.cellsOf 5 = 1 := by kernel_rfl
  rcases open_slice Tryz.underlying22 hf with ⟨hcs, _⟩ | ⟨x, l, cp, m, q, D, Pl, hcs, _, hl, hm, hmm, _, hi⟩
  · simp [Value.cells] at hcs
    obtain ⟨rfl, rfl, rfl⟩ := hcs
    exact ⟨Nat.le_refl _, by omega, fun h => by omega⟩
  · simp [Value.cells] at hcs
    obtain ⟨rfl, rfl, rfl⟩ := hcs
    rw [if_pos rfl] at hmm
    subst hmm
    have each : ∀ k, k < n → ∃ z, W.cell? (x.add k) = some (.int .u8 z) ∧ 0 ≤ z ∧ z ≤ 255 := by
      intro k hk
      obtain ⟨cs', hc, ht⟩ := hi k (by omega)
      obtain ⟨z, rfl, _, hz⟩ := DataW.trod_int Tryz.underlying5 ht
      rw [hC, Nat.mul_one] at hc
      obtain ⟨_, _, hat⟩ := World.cells?_some hc
      have h0 := hat 0 (by omega)
      have e0 : (x.add 0).add 0 = x.add 0 ∧ ∀ k : Nat, (x.add k).add 0 = x.add k := by
        obtain ⟨b, off, spot⟩ := x
        cases spot <;> simp [Addr.add]
      rw [e0.2 k] at h0
      refine ⟨z, by simpa using h0, ?_⟩
      simp [Lit.wf, IntKind.min, IntKind.max, IntKind.signed, IntKind.bits] at hz
      omega
    refine ⟨hl, by unfold maxLen at hm; omega, fun hn => ?_⟩
    obtain ⟨z0, h0, _⟩ := each 0 hn
    obtain ⟨b, off, spot⟩ := x
    have hs : spot = none := by simpa [Addr.add] using World.cell?_spot h0
    subst hs
    have hb : b < W.heap.size := by
      have := World.block_lt_of_cell? W _ h0
      simpa [Addr.add] using this
    refine ⟨b, off, rfl, hb, fun k hk => ?_⟩
    obtain ⟨z, hz, h1⟩ := each k hk
    rw [add_none] at hz
    exact ⟨z, hz, h1⟩
end
end Go.Proofs.YtnokilofcdbjhaaGreatDoor
