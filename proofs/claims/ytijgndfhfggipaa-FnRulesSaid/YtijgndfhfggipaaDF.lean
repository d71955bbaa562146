/- Marks drawn, mostly valid ones. -/
import Derived.Test.YtijgndfhfggipaaDE
namespace Go.Proofs.Ytijgndfhfggipaa
open Go.RowKit Go.Sort
set_option linter.unusedVariables false

theorem am_end {w wz : World} {g M N n : Nat} {v u0 u1 : Value} {dz : MD} (hg : g < w.heap.size) (h : RdA kM (w.heap.size + 1) wz v dz) (ok : kM.ok dz) (hc : Cur wz g M) (hM : M ≤ N + 20 * n + 200) (ht : TchF [g] w wz) :
    ∃ v' d, Ending.returned v = .returned v' ∧ RdA kM w.heap.size ((wz.setCell ⟨w.heap.size, 0, none⟩ u0).setCell ⟨w.heap.size, 1, none⟩ u1) v' d ∧ kM.ok d ∧ Cur ((wz.setCell ⟨w.heap.size, 0, none⟩ u0).setCell ⟨w.heap.size, 1, none⟩ u1) g (N + 20 * n + 200) ∧ TchF [g] w ((wz.setCell ⟨w.heap.size, 0, none⟩ u0).setCell ⟨w.heap.size, 1, none⟩ u1) := by
  obtain ⟨e1, e2, e3⟩ := ret_two (u0 := u0) (u1 := u1) h (Nat.lt_succ_self _) hc hg ht
  exact ⟨_, dz, rfl, e1, ok, e2.more hM, e3⟩
theorem am_endD {w wz : World} {g M N n : Nat} {v u0 u1 : Value} {dz : MD} (hg : g < w.heap.size) (h : RdA kM (w.heap.size + 1) wz v dz) (ok : kM.ok dz) (hc : Cur wz g M) (hM : M ≤ N + 20 * n + 200) (ht : TchF [g] w wz) :
    ∃ v' d, Ending.returned v = .returned v' ∧ RdA kM w.heap.size ((wz.setCell ⟨w.heap.size, 0, none⟩ u0).setCell ⟨w.heap.size, 1, none⟩ u1).drew v' d ∧ kM.ok d ∧ Cur ((wz.setCell ⟨w.heap.size, 0, none⟩ u0).setCell ⟨w.heap.size, 1, none⟩ u1).drew g (N + 20 * n + 200) ∧ TchF [g] w ((wz.setCell ⟨w.heap.size, 0, none⟩ u0).setCell ⟨w.heap.size, 1, none⟩ u1).drew := by
  obtain ⟨e1, e2, e3⟩ := ret_two (u0 := u0) (u1 := u1) h (Nat.lt_succ_self _) hc hg ht
  exact ⟨_, dz, rfl, e1.ext (Ext.drew _), ok, (e2.more hM).ext (Ext.drew _), e3.trans (TchF.of_ext (Ext.drew _))⟩
theorem rows_set {xs : List (List Int)} {k m : Nat} {y : List Int} (h : ∀ x ∈ xs, x.length ≤ m) (hy : y.length ≤ m) : ∀ x ∈ xs.set k y, x.length ≤ m := fun x hx => by
  rcases List.mem_or_eq_of_mem_set hx with e | e
  · exact h x e
  · rw [e]; exact hy

end Go.Proofs.Ytijgndfhfggipaa
