import Derived.Test.YtmckompikbechaaT5
import Derived.Test.YtmckompikbechaaTA
import Derived.Deep.RegionLaw
namespace Go.Proofs.Ytmckompikbechaa
open Go.RowKit

/-- A cut of a slice that is read. -/
theorem Sl.cutTo {w : World} {B n k : Nat} {A : Option Addr} {vs : List Value} (h : Sl w B A n vs) (hk : k ≤ n) : Sl w B A k (vs.take k) := by
  refine ⟨by simp [h.1]; omega, fun h0 => ?_⟩
  obtain ⟨b, off, e, hb, hc⟩ := h.2 (by omega)
  refine ⟨b, off, e, hb, fun i u hu => hc i u ?_⟩
  rw [List.getElem?_take] at hu
  split at hu
  · exact hu
  · cases hu
theorem SlI.cutTo {w : World} {B n k : Nat} {A : Option Addr} {zs : List Int} (h : SlI w B A n zs) (hk : k ≤ n) : SlI w B A k (zs.take k) := by
  unfold SlI; rw [List.map_take]; exact Sl.cutTo h hk
theorem Sl.cutFrom {w : World} {B n k b off : Nat} {X : Option Addr} {vs : List Value} (h : Sl w B (some ⟨b, off, none⟩) n vs) (hk : k ≤ n) (hX : k < n → X = some ⟨b, off + k, none⟩) : Sl w B X (n - k) (vs.drop k) := by
  refine ⟨by simp [h.1], fun h0 => ?_⟩
  obtain ⟨b', off', e, hb, hc⟩ := h.2 (by omega)
  simp only [Option.some.injEq, Addr.mk.injEq, and_true] at e
  obtain ⟨rfl, rfl⟩ := e
  refine ⟨b, off + k, hX (by omega), hb, fun i u hu => ?_⟩
  rw [List.getElem?_drop] at hu
  rw [Nat.add_assoc]
  exact hc _ u hu
theorem SlI.cutFrom {w : World} {B n k b off : Nat} {X : Option Addr} {zs : List Int} (h : SlI w B (some ⟨b, off, none⟩) n zs) (hk : k ≤ n) (hX : k < n → X = some ⟨b, off + k, none⟩) : SlI w B X (n - k) (zs.drop k) := by
  unfold SlI; rw [List.map_drop]; exact Sl.cutFrom h hk hX

end Go.Proofs.Ytmckompikbechaa
