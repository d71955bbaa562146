/- Marks as an argument of a law, opened. -/
import Derived.Test.YtnokilofcdbjhaaDoorFrame
import Derived.Test.YtnokilofcdbjhaaDoorGM
import Derived.Deep.Matrix
import Derived.Lib.SmallJoins
namespace Go.Proofs.YtnokilofcdbjhaaDoor
open Go.ChangeShapes Go.WideShapes Go.ChangeAt Go.RowKit Go.Deep Go.Joins

section
variable {H : Type} {enc : TypeId × Value → H} {W : World} {x : DataW H × List MemPlace} {fuel : Nat} {v : Value}
/-- Lists of numbers in a list, as an argument. -/
theorem open_argLL {t : TypeId} (ht : Tryd.prog.underlying t = some (.slice 44)) (h : DataW.trod enc Tryd.prog W 0 (fun _ => true) true fuel t [v] = some x) : ∃ A c xs, v = .slice A xs.length c ∧ LR kdL W W.heap.size A c xs := by
  rcases open_int_rows ht Tryd.underlying44 Tryd.underlying3 (by kernel_rfl) (by kernel_rfl) h with ⟨hcs, _⟩ | ⟨a, len, cap, A, L, C, Z, hcs, _, hl, hm, _, hrow⟩
  · simp at hcs
    subst hcs
    exact ⟨none, 0, [], rfl, by simp, by simp, fun k x hx => by simp at hx⟩
  · simp at hcs
    subst hcs
    have hlen : ((List.range len).map fun r => (Z r).take (L r)).length = len := by simp
    refine ⟨some a, cap, (List.range len).map fun r => (Z r).take (L r), by rw [hlen], by rw [hlen]; exact hl, by unfold maxLen at hm; omega, fun k y hk => ?_⟩
    have hkl : k < len := by have := (List.getElem?_eq_some_iff.1 hk).1; simpa using this
    have hy : y = (Z k).take (L k) := by
      rw [List.getElem?_map, List.getElem?_range hkl] at hk
      simpa using hk.symm
    obtain ⟨hc, hLC, hCm, hZ, _, hnone, hin⟩ := hrow k (by omega)
    obtain ⟨b, off, rfl⟩ : ∃ b off, a = ⟨b, off, none⟩ := by
      obtain ⟨b, off, spot⟩ := a
      have hs : spot = none := by simpa [Addr.add] using World.cell?_spot (hrow 0 (by omega)).1
      exact ⟨b, off, by rw [hs]⟩
    have hb : b < W.heap.size := by
      have h9 := hc
      rw [add_none] at h9
      exact World.block_lt_of_cell? W _ h9
    have hyl : y.length = L k := by rw [hy, List.length_take]; omega
    refine ⟨b, off, [.slice (A k) y.length (C k)], rfl, hb, ⟨A k, C k, rfl, by omega, by unfold maxLen at hCm; omega, fun j z hj => ?_⟩, fun j u hu => ?_⟩
    · have hjl := (List.getElem?_eq_some_iff.1 hj).1
      have hjz : (Z k).getD j 0 = z := by
        rw [hy, List.getElem?_take, if_pos (by omega)] at hj
        rw [List.getD_eq_getElem?_getD, hj]; rfl
      cases hA : A k with
      | none => have := hnone hA; omega
      | some a' =>
        have hcell := (hin a' hA).2 j (by omega)
        obtain ⟨b', off', rfl⟩ : ∃ b off, a' = ⟨b, off, none⟩ := by
          obtain ⟨b, off, spot⟩ := a'
          have hs : spot = none := by simpa [Addr.add] using World.cell?_spot ((hin _ hA).2 0 (by omega))
          exact ⟨b, off, by rw [hs]⟩
        have hb' : b' < W.heap.size := by
          have h9 := hcell
          rw [add_none] at h9
          exact World.block_lt_of_cell? W _ h9
        refine ⟨b', off', [.int .i64 z], rfl, hb', rfl, fun i u hu => ?_⟩
        rw [add_none, hjz] at hcell
        cases i with
        | zero => simp at hu; subst hu; simpa [kdInt] using hcell
        | succ i => simp at hu
    · rw [add_none] at hc
      cases j with
      | zero => simp at hu; subst hu; rw [hyl]; simpa [kdL, kdList] using hc
      | succ j => simp at hu

set_option maxRecDepth 1000000 in
theorem open_argM {r : Reach} {b0 : Nat} {d : DataW H} {p : List MemPlace} (hv : Value.okWide Tryd.prog W r b0 24 v) (h : DataW.Trod enc Tryd.prog W 0 (fun _ => true) true 24 v d p) : ∃ z, kM.rd W v z := by
  obtain ⟨v0, v1, y0, y1, n, rfl, _, _, h0, h1⟩ := open_agg2 Tryd.underlying24 (by kernel_rfl) (by kernel_rfl) hv h
  obtain ⟨A, c, xs, rfl, r0⟩ := open_argLL Tryd.underlying22 h0
  obtain ⟨A', c', ys, rfl, r1⟩ := open_argLL Tryd.underlying22 h1
  exact ⟨(xs, ys), _, rfl, _, _, rfl, ⟨A, c, rfl, r0⟩, ⟨A', c', rfl, r1⟩⟩
end
end Go.Proofs.YtnokilofcdbjhaaDoor
