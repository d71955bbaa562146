/- The reference's list in increasing order. -/
import Derived.Test.YtcnpbaldnhfebaaPE
import Derived.Deep.RegionHeld3
namespace Go.Proofs.Ytcnpbaldnhfebaa
open Go.RowKit Go.Sort
set_option linter.unusedVariables false

theorem Sl.ext' {w w' : World} {B n : Nat} {A : Option Addr} {vs : List Value} (h : Sl w B A n vs) (x : Ext w w') (hB : B ≤ w.heap.size := by (first | exact Nat.le_refl _ | simp <;> omega)) : Sl w' B A n vs := h.keep fun p hp => x.cell (by omega)
theorem Sl.take_ext {w w' : World} {n k : Nat} {A : Option Addr} {zs : List Int} (h : SlI w w.heap.size A n zs) (hk : k ≤ n) (x : Ext w w') : SlI w' w.heap.size A k (zs.take k) := by
  have h2 := Sl.cutTo (k := k) h hk
  rw [← List.map_take] at h2
  exact SlI.ext h2 x (Nat.le_refl _)
end Go.Proofs.Ytcnpbaldnhfebaa
