/- slices.Reverse, laid by the shelf at this seat, in plain words. -/
import Derived.Shelf.Slices.Reverse
import Derived.Test.YtegoapdbpfhkiaaGreatProg
namespace Go.Proofs.YtegoapdbpfhkiaaGreat
open Go.Proofs
open Go.Shelf
def lays112_ren : Go.Shelf.Ren := ⟨fun | 112 => 41 | n => n, fun | 28 => 24 | 3 => 3 | 0 => 0 | 4 => 4 | n => n, fun | n => n⟩
theorem lays112 : Go.Proofs.Lays.n112 Tryz.prog lays112_ren := {
  mixed := by kernel_rfl
  f112 := Tryz.func41.trans (congrArg some (by kernel_rfl))
  t0 := Tryz.underlying0
  a0 := Tryz.isAgg0
  z0 := Tryz.sizeOf0
  v0 := Tryz.zeroValue0
  t3 := Tryz.underlying3
  a3 := Tryz.isAgg3
  z3 := Tryz.sizeOf3
  v3 := Tryz.zeroValue3
  t4 := Tryz.underlying4
  a4 := Tryz.isAgg4
  z4 := Tryz.sizeOf4
  v4 := Tryz.zeroValue4
  t28 := Tryz.underlying24
  a28 := Tryz.isAgg24
  z28 := Tryz.sizeOf24
  v28 := Tryz.zeroValue24 }
open Go.Sort Go.RowKit in
theorem slices_Reverse_int (blk off cap : Nat) (zs : List Int) (w : World) (hH : Holds (Value.int .i64) w blk off zs.toArray) (hsz : zs.length ≤ 9223372036854775807) :
    Calls Tryz.prog 41 #[.slice (some ⟨blk, off, none⟩) zs.length cap] w fun e w' =>
      e = .returned (.tuple #[]) ∧ ∃ n, w' = putRow (Value.int .i64) (Sort.ahead w n) blk off zs.reverse.toArray := Any.slices_Reverse_int lays112 blk off cap zs w hH hsz
end Go.Proofs.YtegoapdbpfhkiaaGreat
