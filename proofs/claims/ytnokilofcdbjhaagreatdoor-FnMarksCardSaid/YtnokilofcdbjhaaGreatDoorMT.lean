/- A judge dropped: the reference's functions. -/
import Derived.Test.YtnokilofcdbjhaaGreatDoorMR
namespace Go.Proofs.YtnokilofcdbjhaaGreatDoor
open Go.RowKit Go.Sort
set_option linter.unusedVariables false

end Go.Proofs.YtnokilofcdbjhaaGreatDoor
