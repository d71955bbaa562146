/-
  No cell of these rows narrows 'for every input' (looked for: loops, veiled, ifaces, maps, wideKeys, modest, calm, conditions, laid).
  DERIVED. THE GIVEN ROWS OF THIS SEAT. 6 by the template 'for every input the law returns true; each argument reads behind the call as it read before'; 0 by the template 'total and deterministic' (their statements: YtcmoedjcokkdcaaTotals.lean).
  GIVEN WITH THE SEED: the statements are not yours to turn. If you find one false, say at which input.
  Laid BY PROGRAM, IN A SANDBOX (cutbox-rows.mjs): the forced cells as the released guide's own fill.sh prints them over the translation 40f6e43b89e13a1f… (all of the seat's roots in one cut). By AI agents, Wed Nov 11 2026. No macro, syntax, notation, axiom, sorry.
-/
import Derived.Test.YtcmoedjcokkdcaaChecked
import GoSem.Claim
import GoSem.ClaimJoined
import GoSem.ClaimMapViews
import Derived.JoinedTies
import Derived.KernelRfl
namespace Go.Proofs.Ytcmoedjcokkdcaa
/- THE CELL 'sum', in the pinned program and in every row, IS THE sha256 OF THE DUMP (.gsa) THAT YtcmoedjcokkdcaaProg.lean LOADS. Nothing in Lean hashes anything: it is a label: what it is worth is what the hold of that sum in a sandbox is worth. -/
noncomputable def Try.pinned : Pinned := { name := "ytcmoedjcokkdcaa", sum := "40f6e43b89e13a1f3da0c5a3c645be598960923e421ad1b263d8c2670e28bd40", checked := Try.checked }
namespace Rows
def none {H : Type} : Left H := { results := [], args := [] }

/-- 'laws.FnExactAreJudged': WHATEVER THE INPUT: true; the input reads as it did. -/
def fnExactAreJudgedSpec : ChangeSpec := { name := "fnExactAreJudged", fn := fun _ => fun
  | [d1, d2, d3] => { results := [.lit (.bool true)], args := [d1, d2, d3] }
  | _ => none }
def fnExactAreJudgedRow : OpenClaim := { program := "ytcmoedjcokkdcaa", sum := "40f6e43b89e13a1f3da0c5a3c645be598960923e421ad1b263d8c2670e28bd40", func := "loop.example/g00912/laws.FnExactAreJudged", spec := "fnExactAreJudged", unfollowed := true, recurses := true, apart := false }
def FnExactAreJudgedSaid : Prop := fnExactAreJudgedRow.holds Try.pinned (OpenSpec.ofChange fnExactAreJudgedSpec)

/-- ITS FALSE NEIGHBOUR: 'it returns false'. Refute it at one input. -/
def fnExactAreJudgedWrong : ChangeSpec := { name := "fnExactAreJudged", fn := fun _ => fun
  | [d1, d2, d3] => { results := [.lit (.bool false)], args := [d1, d2, d3] }
  | _ => none }
def FnExactAreJudgedWrongFalsely : Prop := fnExactAreJudgedRow.holds Try.pinned (OpenSpec.ofChange fnExactAreJudgedWrong)

/-- 'laws.FnExactLeastGrade': WHATEVER THE INPUT: true; the input reads as it did. -/
def fnExactLeastGradeSpec : ChangeSpec := { name := "fnExactLeastGrade", fn := fun _ => fun
  | [d1, d2, d3, d4] => { results := [.lit (.bool true)], args := [d1, d2, d3, d4] }
  | _ => none }
def fnExactLeastGradeRow : OpenClaim := { program := "ytcmoedjcokkdcaa", sum := "40f6e43b89e13a1f3da0c5a3c645be598960923e421ad1b263d8c2670e28bd40", func := "loop.example/g00912/laws.FnExactLeastGrade", spec := "fnExactLeastGrade", unfollowed := true, recurses := true, apart := false }
def FnExactLeastGradeSaid : Prop := fnExactLeastGradeRow.holds Try.pinned (OpenSpec.ofChange fnExactLeastGradeSpec)

/-- ITS FALSE NEIGHBOUR: 'it returns false'. Refute it at one input. -/
def fnExactLeastGradeWrong : ChangeSpec := { name := "fnExactLeastGrade", fn := fun _ => fun
  | [d1, d2, d3, d4] => { results := [.lit (.bool false)], args := [d1, d2, d3, d4] }
  | _ => none }
def FnExactLeastGradeWrongFalsely : Prop := fnExactLeastGradeRow.holds Try.pinned (OpenSpec.ofChange fnExactLeastGradeWrong)

/-- 'laws.FnExactGradePoints': WHATEVER THE INPUT: true; the input reads as it did. -/
def fnExactGradePointsSpec : ChangeSpec := { name := "fnExactGradePoints", fn := fun _ => fun
  | [d1, d2, d3, d4] => { results := [.lit (.bool true)], args := [d1, d2, d3, d4] }
  | _ => none }
def fnExactGradePointsRow : OpenClaim := { program := "ytcmoedjcokkdcaa", sum := "40f6e43b89e13a1f3da0c5a3c645be598960923e421ad1b263d8c2670e28bd40", func := "loop.example/g00912/laws.FnExactGradePoints", spec := "fnExactGradePoints", unfollowed := true, recurses := true, apart := false }
def FnExactGradePointsSaid : Prop := fnExactGradePointsRow.holds Try.pinned (OpenSpec.ofChange fnExactGradePointsSpec)

/-- ITS FALSE NEIGHBOUR: 'it returns false'. Refute it at one input. -/
def fnExactGradePointsWrong : ChangeSpec := { name := "fnExactGradePoints", fn := fun _ => fun
  | [d1, d2, d3, d4] => { results := [.lit (.bool false)], args := [d1, d2, d3, d4] }
  | _ => none }
def FnExactGradePointsWrongFalsely : Prop := fnExactGradePointsRow.holds Try.pinned (OpenSpec.ofChange fnExactGradePointsWrong)

/-- 'laws.FnExactItemScore': WHATEVER THE INPUT: true; the input reads as it did. -/
def fnExactItemScoreSpec : ChangeSpec := { name := "fnExactItemScore", fn := fun _ => fun
  | [d1, d2, d3, d4] => { results := [.lit (.bool true)], args := [d1, d2, d3, d4] }
  | _ => none }
def fnExactItemScoreRow : OpenClaim := { program := "ytcmoedjcokkdcaa", sum := "40f6e43b89e13a1f3da0c5a3c645be598960923e421ad1b263d8c2670e28bd40", func := "loop.example/g00912/laws.FnExactItemScore", spec := "fnExactItemScore", unfollowed := true, recurses := true, apart := false }
def FnExactItemScoreSaid : Prop := fnExactItemScoreRow.holds Try.pinned (OpenSpec.ofChange fnExactItemScoreSpec)

/-- ITS FALSE NEIGHBOUR: 'it returns false'. Refute it at one input. -/
def fnExactItemScoreWrong : ChangeSpec := { name := "fnExactItemScore", fn := fun _ => fun
  | [d1, d2, d3, d4] => { results := [.lit (.bool false)], args := [d1, d2, d3, d4] }
  | _ => none }
def FnExactItemScoreWrongFalsely : Prop := fnExactItemScoreRow.holds Try.pinned (OpenSpec.ofChange fnExactItemScoreWrong)

/-- 'laws.FnExactItemSum': WHATEVER THE INPUT: true; the input reads as it did. -/
def fnExactItemSumSpec : ChangeSpec := { name := "fnExactItemSum", fn := fun _ => fun
  | [d1, d2, d3] => { results := [.lit (.bool true)], args := [d1, d2, d3] }
  | _ => none }
def fnExactItemSumRow : OpenClaim := { program := "ytcmoedjcokkdcaa", sum := "40f6e43b89e13a1f3da0c5a3c645be598960923e421ad1b263d8c2670e28bd40", func := "loop.example/g00912/laws.FnExactItemSum", spec := "fnExactItemSum", unfollowed := true, recurses := true, apart := false }
def FnExactItemSumSaid : Prop := fnExactItemSumRow.holds Try.pinned (OpenSpec.ofChange fnExactItemSumSpec)

/-- ITS FALSE NEIGHBOUR: 'it returns false'. Refute it at one input. -/
def fnExactItemSumWrong : ChangeSpec := { name := "fnExactItemSum", fn := fun _ => fun
  | [d1, d2, d3] => { results := [.lit (.bool false)], args := [d1, d2, d3] }
  | _ => none }
def FnExactItemSumWrongFalsely : Prop := fnExactItemSumRow.holds Try.pinned (OpenSpec.ofChange fnExactItemSumWrong)

/-- 'laws.FnExactBestItem': WHATEVER THE INPUT: true; the input reads as it did. -/
def fnExactBestItemSpec : ChangeSpec := { name := "fnExactBestItem", fn := fun _ => fun
  | [d1, d2, d3] => { results := [.lit (.bool true)], args := [d1, d2, d3] }
  | _ => none }
def fnExactBestItemRow : OpenClaim := { program := "ytcmoedjcokkdcaa", sum := "40f6e43b89e13a1f3da0c5a3c645be598960923e421ad1b263d8c2670e28bd40", func := "loop.example/g00912/laws.FnExactBestItem", spec := "fnExactBestItem", unfollowed := true, recurses := true, apart := false }
def FnExactBestItemSaid : Prop := fnExactBestItemRow.holds Try.pinned (OpenSpec.ofChange fnExactBestItemSpec)

/-- ITS FALSE NEIGHBOUR: 'it returns false'. Refute it at one input. -/
def fnExactBestItemWrong : ChangeSpec := { name := "fnExactBestItem", fn := fun _ => fun
  | [d1, d2, d3] => { results := [.lit (.bool false)], args := [d1, d2, d3] }
  | _ => none }
def FnExactBestItemWrongFalsely : Prop := fnExactBestItemRow.holds Try.pinned (OpenSpec.ofChange fnExactBestItemWrong)

/- THE SECOND FORM. 'bulk': how many values and letters a reading holds, each counted each time it is reached (what is shared counts as often as it is met; a slice's spare places count too). A statement '..UptoSaid' is the law's where the arguments, and the package variables that the reading takes, are together of bulk at most 1048576: NARROWER than '..Said'. Prove '..Said' where nothing that the law and all that it calls make is longer than what came in: it says more and counts as full. Else prove '..UptoSaid'. A law counts once. -/
mutual
def uptoBulk {H : Type} : DataW H → Nat
  | .lit (.string bytes) => bytes.length + 1
  | .lit _ => 1
  | .nil => 1
  | .ptr d => uptoBulk d + 1
  | .slice elems spare => uptoBulkAll elems + uptoBulkAll spare + 1
  | .agg parts => uptoBulkAll parts + 1
  | .iface _ d => uptoBulk d + 1
  | .map entries => uptoBulkEntries entries + 1
  | .held _ => 1
def uptoBulkAll {H : Type} : List (DataW H) → Nat
  | [] => 0
  | d :: r => uptoBulk d + uptoBulkAll r
def uptoBulkEntries {H : Type} : List (Lit × DataW H) → Nat
  | [] => 0
  | x :: r => uptoBulkEntry x + uptoBulkEntries r
def uptoBulkEntry {H : Type} : Lit × DataW H → Nat
  | (.string bytes, d) => bytes.length + uptoBulk d + 1
  | (_, d) => uptoBulk d + 1
 end
def uptoSmall : (H : Type) → List (DataW H) → Bool := fun _ ds => decide (uptoBulkAll ds ≤ 1048576)
def OpenSpec.upto (s : _root_.Go.ChangeSpec) : _root_.Go.OpenSpec := { _root_.Go.OpenSpec.ofChange s with cond := some uptoSmall }

/-- 'laws.FnExactAreJudged', WHERE WHAT IT READS IS OF BULK AT MOST 1048576: true; the input reads as it did. -/
def fnExactAreJudgedUptoRow : OpenClaim := { program := "ytcmoedjcokkdcaa", sum := "40f6e43b89e13a1f3da0c5a3c645be598960923e421ad1b263d8c2670e28bd40", func := "loop.example/g00912/laws.FnExactAreJudged", spec := "fnExactAreJudged", unfollowed := true, recurses := true, apart := false, narrowed := true }
def FnExactAreJudgedUptoSaid : Prop := fnExactAreJudgedUptoRow.holds Try.pinned (OpenSpec.upto fnExactAreJudgedSpec)

/-- 'laws.FnExactLeastGrade', WHERE WHAT IT READS IS OF BULK AT MOST 1048576: true; the input reads as it did. -/
def fnExactLeastGradeUptoRow : OpenClaim := { program := "ytcmoedjcokkdcaa", sum := "40f6e43b89e13a1f3da0c5a3c645be598960923e421ad1b263d8c2670e28bd40", func := "loop.example/g00912/laws.FnExactLeastGrade", spec := "fnExactLeastGrade", unfollowed := true, recurses := true, apart := false, narrowed := true }
def FnExactLeastGradeUptoSaid : Prop := fnExactLeastGradeUptoRow.holds Try.pinned (OpenSpec.upto fnExactLeastGradeSpec)

/-- 'laws.FnExactGradePoints', WHERE WHAT IT READS IS OF BULK AT MOST 1048576: true; the input reads as it did. -/
def fnExactGradePointsUptoRow : OpenClaim := { program := "ytcmoedjcokkdcaa", sum := "40f6e43b89e13a1f3da0c5a3c645be598960923e421ad1b263d8c2670e28bd40", func := "loop.example/g00912/laws.FnExactGradePoints", spec := "fnExactGradePoints", unfollowed := true, recurses := true, apart := false, narrowed := true }
def FnExactGradePointsUptoSaid : Prop := fnExactGradePointsUptoRow.holds Try.pinned (OpenSpec.upto fnExactGradePointsSpec)

/-- 'laws.FnExactItemScore', WHERE WHAT IT READS IS OF BULK AT MOST 1048576: true; the input reads as it did. -/
def fnExactItemScoreUptoRow : OpenClaim := { program := "ytcmoedjcokkdcaa", sum := "40f6e43b89e13a1f3da0c5a3c645be598960923e421ad1b263d8c2670e28bd40", func := "loop.example/g00912/laws.FnExactItemScore", spec := "fnExactItemScore", unfollowed := true, recurses := true, apart := false, narrowed := true }
def FnExactItemScoreUptoSaid : Prop := fnExactItemScoreUptoRow.holds Try.pinned (OpenSpec.upto fnExactItemScoreSpec)

/-- 'laws.FnExactItemSum', WHERE WHAT IT READS IS OF BULK AT MOST 1048576: true; the input reads as it did. -/
def fnExactItemSumUptoRow : OpenClaim := { program := "ytcmoedjcokkdcaa", sum := "40f6e43b89e13a1f3da0c5a3c645be598960923e421ad1b263d8c2670e28bd40", func := "loop.example/g00912/laws.FnExactItemSum", spec := "fnExactItemSum", unfollowed := true, recurses := true, apart := false, narrowed := true }
def FnExactItemSumUptoSaid : Prop := fnExactItemSumUptoRow.holds Try.pinned (OpenSpec.upto fnExactItemSumSpec)

/-- 'laws.FnExactBestItem', WHERE WHAT IT READS IS OF BULK AT MOST 1048576: true; the input reads as it did. -/
def fnExactBestItemUptoRow : OpenClaim := { program := "ytcmoedjcokkdcaa", sum := "40f6e43b89e13a1f3da0c5a3c645be598960923e421ad1b263d8c2670e28bd40", func := "loop.example/g00912/laws.FnExactBestItem", spec := "fnExactBestItem", unfollowed := true, recurses := true, apart := false, narrowed := true }
def FnExactBestItemUptoSaid : Prop := fnExactBestItemUptoRow.holds Try.pinned (OpenSpec.upto fnExactBestItemSpec)

end Rows
end Go.Proofs.Ytcmoedjcokkdcaa
