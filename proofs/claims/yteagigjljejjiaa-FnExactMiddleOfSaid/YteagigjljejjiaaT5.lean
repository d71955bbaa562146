import Derived.Test.YteagigjljejjiaaKinds
namespace Go.Proofs.Yteagigjljejjiaa
open Go.RowKit

theorem RetLB.law {w w' : World} {r : List Int × Bool} {x : Ending} (h : RetLB 3 w r x w') (ho : kI.ok r.1) :
    ∃ v, x = .returned (.tuple #[v, .bool r.2]) ∧ kI.fr w' w.heap.size w'.heap.size v r.1 ∧ kI.ok r.1 ∧ Ext w w' := by
  obtain ⟨A, c, rfl, h1, h2⟩ := h
  exact ⟨_, rfl, ⟨A, c, rfl, h1.fr⟩, ho, h2⟩

theorem i.AreMarksOf_law (w : World) (v : Value) (z0 : List Int) (h : kI.rd w v z0) (hok : kI.ok z0) :
    Calls Try.prog 16 #[v] w fun e w' => e = .returned (.bool (goodMarks z0)) ∧ Ext w w' := by
  obtain ⟨A, c, rfl, h, hnc, hcm⟩ := h
  exact (i.AreMarksOf_any _ _ _ _ z0 _ h hok).mono fun e w' ⟨he, hw⟩ => ⟨he, hw ▸ Ext.refl _⟩

theorem s.AreMarksOf_law (w : World) (v : Value) (z0 : List Int) (h : kI.rd w v z0) (hok : kI.ok z0) :
    Calls Try.prog 14 #[v] w fun e w' => e = .returned (.bool (goodMarks z0)) ∧ Ext w w' := by
  obtain ⟨A, c, rfl, h, hnc, hcm⟩ := h
  exact (s.AreMarksOf_any _ _ _ _ z0 _ h hok).mono fun e w' ⟨he, hw⟩ => ⟨he, hw ▸ Ext.refl _⟩

theorem withMarkF_ok (zs : List Int) (k m : Int) (h : kI.ok zs) : kI.ok (withMarkF zs k m).1 := by
  show (withMarkF zs k m).1.length ≤ 1048576
  have : zs.length ≤ 1048576 := h
  unfold withMarkF
  split
  · simpa using this
  · simp
theorem i.WithMark_law (w : World) (v : Value) (z0 : List Int) (z1 z2 : Int) (h : kI.rd w v z0) (hok : kI.ok z0) (_h1 : InR z1) (_h2 : InR z2) :
    Calls Try.prog 19 #[v, .int .i64 z1, .int .i64 z2] w fun e w' => ∃ v, e = .returned (.tuple #[v, .bool (withMarkF z0 z1 z2).2]) ∧ kI.fr w' w.heap.size w'.heap.size v (withMarkF z0 z1 z2).1 ∧ kI.ok (withMarkF z0 z1 z2).1 ∧ Ext w w' := by
  obtain ⟨A, c, rfl, h, hnc, hcm⟩ := h
  exact (i.WithMark_any _ _ _ _ z0 z1 z2 _ h (Nat.le_refl _) hok).mono fun e w' hr => hr.law (withMarkF_ok _ _ _ hok)

theorem s.WithMark_law (w : World) (v : Value) (z0 : List Int) (z1 z2 : Int) (h : kI.rd w v z0) (hok : kI.ok z0) (_h1 : InR z1) (_h2 : InR z2) :
    Calls Try.prog 18 #[v, .int .i64 z1, .int .i64 z2] w fun e w' => ∃ v, e = .returned (.tuple #[v, .bool (withMarkF z0 z1 z2).2]) ∧ kI.fr w' w.heap.size w'.heap.size v (withMarkF z0 z1 z2).1 ∧ kI.ok (withMarkF z0 z1 z2).1 ∧ Ext w w' := by
  obtain ⟨A, c, rfl, h, hnc, hcm⟩ := h
  exact (s.WithMark_any _ _ _ _ z0 z1 z2 _ h (Nat.le_refl _) hok).mono fun e w' hr => hr.law (withMarkF_ok _ _ _ hok)

end Go.Proofs.Yteagigjljejjiaa
