/- Draws of codes: any code. -/
import Derived.Test.YtofmfagdaiphaaaEF
import Derived.Test.YtofmfagdaiphaaaGE
namespace Go.Proofs.Ytofmfagdaiphaaa
open Go.RowKit Go.Sort
set_option linter.unusedVariables false

section
variable {w0 ws w w' : World} {g M M' b : Nat} {Ts T T' : Typ} {A1 : Option Addr} {n1 c1 : Nat} {A2 : Option Addr} {n2 c2 : Nat} {r bo k f : Int}
end

end Go.Proofs.Ytofmfagdaiphaaa
