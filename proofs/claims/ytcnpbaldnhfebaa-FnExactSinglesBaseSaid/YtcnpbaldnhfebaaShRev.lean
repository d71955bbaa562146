/- slices.Reverse, laid by the shelf at this seat, in plain words. -/
import Derived.Shelf.Slices.Reverse
import Derived.Test.YtcnpbaldnhfebaaProg
namespace Go.Proofs.Ytcnpbaldnhfebaa
open Go.Proofs
open Go.Shelf
end Go.Proofs.Ytcnpbaldnhfebaa
