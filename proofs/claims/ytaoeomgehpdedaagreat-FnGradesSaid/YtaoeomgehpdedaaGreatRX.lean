/- MarkLosses. -/
import Derived.Test.YtaoeomgehpdedaaGreatRW
namespace Go.Proofs.YtaoeomgehpdedaaGreat
open Go.RowKit Go.Sort
set_option linter.unusedVariables false

/-- The second list of bases taken from the first, one by one: what both loops keep. -/
theorem loss_step {d : CoD} {xs : List ItD} {g k n c : Nat} {wr : World} {lo : Nat} (hn : xs.length = n) (hk : k < n) (h : OwnI 3 wr lo (some ⟨g, 0, none⟩) n c (lossN d xs k)) :
    OwnI 3 (wr.setCell ⟨g, k, none⟩ (.int .i64 (baseF d (xs.map cleanD) k - baseF d xs k))) lo (some ⟨g, 0, none⟩) n c (lossN d xs (k + 1)) := by
  rw [lossN_succ (by omega)]
  exact h.set k _

end Go.Proofs.YtaoeomgehpdedaaGreat
