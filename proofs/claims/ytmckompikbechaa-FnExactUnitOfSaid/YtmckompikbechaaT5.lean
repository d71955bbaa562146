import Derived.Test.YtmckompikbechaaKinds
namespace Go.Proofs.Ytmckompikbechaa
open Go.RowKit

theorem RetLB.law {w w' : World} {r : List Int × Bool} {x : Ending} (h : RetLB 3 w r x w') (ho : kI.ok r.1) :
    ∃ v, x = .returned (.tuple #[v, .bool r.2]) ∧ kI.fr w' w.heap.size w'.heap.size v r.1 ∧ kI.ok r.1 ∧ Ext w w' := by
  obtain ⟨A, c, rfl, h1, h2⟩ := h
  exact ⟨_, rfl, ⟨A, c, rfl, h1.fr⟩, ho, h2⟩

theorem withMarkF_ok (zs : List Int) (k m : Int) (h : kI.ok zs) : kI.ok (withMarkF zs k m).1 := by
  show (withMarkF zs k m).1.length ≤ 1048576
  have : zs.length ≤ 1048576 := h
  unfold withMarkF
  split
  · simpa using this
  · simp
end Go.Proofs.Ytmckompikbechaa
