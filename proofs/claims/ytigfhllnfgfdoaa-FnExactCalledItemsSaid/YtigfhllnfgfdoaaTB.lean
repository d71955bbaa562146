import Derived.Test.YtigfhllnfgfdoaaTC
import Derived.Deep.RegionLaw
namespace Go.Proofs.Ytigfhllnfgfdoaa
open Go.RowKit

theorem one_int (x : Int) : ∀ u ∈ [Value.int .i64 x], u.oneCell' = true := by simp [Value.oneCell']

end Go.Proofs.Ytigfhllnfgfdoaa
