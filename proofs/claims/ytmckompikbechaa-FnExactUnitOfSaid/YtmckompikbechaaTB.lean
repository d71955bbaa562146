import Derived.Test.YtmckompikbechaaTC
import Derived.Deep.RegionLaw
namespace Go.Proofs.Ytmckompikbechaa
open Go.RowKit

theorem one_int (x : Int) : ∀ u ∈ [Value.int .i64 x], u.oneCell' = true := by simp [Value.oneCell']

end Go.Proofs.Ytmckompikbechaa
