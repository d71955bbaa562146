/-
  No cell of these rows narrows 'for every input' (looked for: loops, veiled, ifaces, maps, wideKeys, modest, calm, conditions, laid).
  DERIVED. THE GIVEN ROWS OF THIS SEAT. 10 by the template 'for every input the law returns true; each argument reads behind the call as it read before'; 0 by the template 'total and deterministic' (their statements: YtmckompikbechaaTotals.lean).
  GIVEN WITH THE SEED: the statements are not yours to turn. If you find one false, say at which input.
  Laid BY PROGRAM, IN A SANDBOX (cutbox-rows.mjs): the forced cells as the released guide's own fill.sh prints them over the translation 60389a0c7b14fd62… (all of the seat's roots in one cut). By AI agents, Wed Nov 11 2026. No macro, syntax, notation, axiom, sorry.
-/
import Derived.Test.YtmckompikbechaaChecked
import GoSem.Claim
import GoSem.ClaimJoined
import GoSem.ClaimMapViews
import Derived.JoinedTies
import Derived.KernelRfl
namespace Go.Proofs.Ytmckompikbechaa
/- THE CELL 'sum', in the pinned program and in every row, IS THE sha256 OF THE DUMP (.gsa) THAT YtmckompikbechaaProg.lean LOADS. Nothing in Lean hashes anything: it is a label: what it is worth is what the hold of that sum in a sandbox is worth. -/
noncomputable def Try.pinned : Pinned := { name := "ytmckompikbechaa", sum := "60389a0c7b14fd624103288c0381b097add6cbdd92dfdeceb82cdfc27d38a48f", checked := Try.checked }
namespace Rows
def none {H : Type} : Left H := { results := [], args := [] }

/-- 'laws.FnExactNewSheet': WHATEVER THE INPUT: true; the input reads as it did. -/
def fnExactNewSheetSpec : ChangeSpec := { name := "fnExactNewSheet", fn := fun _ => fun
  | [d] => { results := [.lit (.bool true)], args := [d] }
  | _ => none }
def fnExactNewSheetRow : OpenClaim := { program := "ytmckompikbechaa", sum := "60389a0c7b14fd624103288c0381b097add6cbdd92dfdeceb82cdfc27d38a48f", func := "loop.example/g00912/laws.FnExactNewSheet", spec := "fnExactNewSheet", apart := false }
def FnExactNewSheetSaid : Prop := fnExactNewSheetRow.holds Try.pinned (OpenSpec.ofChange fnExactNewSheetSpec)

/-- ITS FALSE NEIGHBOUR: 'it returns false'. Refute it at one input. -/
def fnExactNewSheetWrong : ChangeSpec := { name := "fnExactNewSheet", fn := fun _ => fun
  | [d] => { results := [.lit (.bool false)], args := [d] }
  | _ => none }
def FnExactNewSheetWrongFalsely : Prop := fnExactNewSheetRow.holds Try.pinned (OpenSpec.ofChange fnExactNewSheetWrong)

/-- 'laws.FnExactVoteCall': WHATEVER THE INPUT: true; the input reads as it did. -/
def fnExactVoteCallSpec : ChangeSpec := { name := "fnExactVoteCall", fn := fun _ => fun
  | [d1, d2, d3, d4, d5] => { results := [.lit (.bool true)], args := [d1, d2, d3, d4, d5] }
  | _ => none }
def fnExactVoteCallRow : OpenClaim := { program := "ytmckompikbechaa", sum := "60389a0c7b14fd624103288c0381b097add6cbdd92dfdeceb82cdfc27d38a48f", func := "loop.example/g00912/laws.FnExactVoteCall", spec := "fnExactVoteCall", apart := false }
def FnExactVoteCallSaid : Prop := fnExactVoteCallRow.holds Try.pinned (OpenSpec.ofChange fnExactVoteCallSpec)

/-- ITS FALSE NEIGHBOUR: 'it returns false'. Refute it at one input. -/
def fnExactVoteCallWrong : ChangeSpec := { name := "fnExactVoteCall", fn := fun _ => fun
  | [d1, d2, d3, d4, d5] => { results := [.lit (.bool false)], args := [d1, d2, d3, d4, d5] }
  | _ => none }
def FnExactVoteCallWrongFalsely : Prop := fnExactVoteCallRow.holds Try.pinned (OpenSpec.ofChange fnExactVoteCallWrong)

/-- 'laws.FnExactAddReview': WHATEVER THE INPUT: true; the input reads as it did. -/
def fnExactAddReviewSpec : ChangeSpec := { name := "fnExactAddReview", fn := fun _ => fun
  | [d1, d2] => { results := [.lit (.bool true)], args := [d1, d2] }
  | _ => none }
def fnExactAddReviewRow : OpenClaim := { program := "ytmckompikbechaa", sum := "60389a0c7b14fd624103288c0381b097add6cbdd92dfdeceb82cdfc27d38a48f", func := "loop.example/g00912/laws.FnExactAddReview", spec := "fnExactAddReview", apart := false }
def FnExactAddReviewSaid : Prop := fnExactAddReviewRow.holds Try.pinned (OpenSpec.ofChange fnExactAddReviewSpec)

/-- ITS FALSE NEIGHBOUR: 'it returns false'. Refute it at one input. -/
def fnExactAddReviewWrong : ChangeSpec := { name := "fnExactAddReview", fn := fun _ => fun
  | [d1, d2] => { results := [.lit (.bool false)], args := [d1, d2] }
  | _ => none }
def FnExactAddReviewWrongFalsely : Prop := fnExactAddReviewRow.holds Try.pinned (OpenSpec.ofChange fnExactAddReviewWrong)

/-- 'laws.FnExactMostSingles': WHATEVER THE INPUT: true; the input reads as it did. -/
def fnExactMostSinglesSpec : ChangeSpec := { name := "fnExactMostSingles", fn := fun _ => fun
  | [d] => { results := [.lit (.bool true)], args := [d] }
  | _ => none }
def fnExactMostSinglesRow : OpenClaim := { program := "ytmckompikbechaa", sum := "60389a0c7b14fd624103288c0381b097add6cbdd92dfdeceb82cdfc27d38a48f", func := "loop.example/g00912/laws.FnExactMostSingles", spec := "fnExactMostSingles", apart := false }
def FnExactMostSinglesSaid : Prop := fnExactMostSinglesRow.holds Try.pinned (OpenSpec.ofChange fnExactMostSinglesSpec)

/-- ITS FALSE NEIGHBOUR: 'it returns false'. Refute it at one input. -/
def fnExactMostSinglesWrong : ChangeSpec := { name := "fnExactMostSingles", fn := fun _ => fun
  | [d] => { results := [.lit (.bool false)], args := [d] }
  | _ => none }
def FnExactMostSinglesWrongFalsely : Prop := fnExactMostSinglesRow.holds Try.pinned (OpenSpec.ofChange fnExactMostSinglesWrong)

/-- 'laws.FnExactCountSingles': WHATEVER THE INPUT: true; the input reads as it did. -/
def fnExactCountSinglesSpec : ChangeSpec := { name := "fnExactCountSingles", fn := fun _ => fun
  | [d1, d2] => { results := [.lit (.bool true)], args := [d1, d2] }
  | _ => none }
def fnExactCountSinglesRow : OpenClaim := { program := "ytmckompikbechaa", sum := "60389a0c7b14fd624103288c0381b097add6cbdd92dfdeceb82cdfc27d38a48f", func := "loop.example/g00912/laws.FnExactCountSingles", spec := "fnExactCountSingles", apart := false }
def FnExactCountSinglesSaid : Prop := fnExactCountSinglesRow.holds Try.pinned (OpenSpec.ofChange fnExactCountSinglesSpec)

/-- ITS FALSE NEIGHBOUR: 'it returns false'. Refute it at one input. -/
def fnExactCountSinglesWrong : ChangeSpec := { name := "fnExactCountSingles", fn := fun _ => fun
  | [d1, d2] => { results := [.lit (.bool false)], args := [d1, d2] }
  | _ => none }
def FnExactCountSinglesWrongFalsely : Prop := fnExactCountSinglesRow.holds Try.pinned (OpenSpec.ofChange fnExactCountSinglesWrong)

/-- 'laws.FnExactUnitOf': WHATEVER THE INPUT: true; the input reads as it did. -/
def fnExactUnitOfSpec : ChangeSpec := { name := "fnExactUnitOf", fn := fun _ => fun
  | [d1, d2] => { results := [.lit (.bool true)], args := [d1, d2] }
  | _ => none }
def fnExactUnitOfRow : OpenClaim := { program := "ytmckompikbechaa", sum := "60389a0c7b14fd624103288c0381b097add6cbdd92dfdeceb82cdfc27d38a48f", func := "loop.example/g00912/laws.FnExactUnitOf", spec := "fnExactUnitOf", unfollowed := true, recurses := true, apart := false }
def FnExactUnitOfSaid : Prop := fnExactUnitOfRow.holds Try.pinned (OpenSpec.ofChange fnExactUnitOfSpec)

/-- ITS FALSE NEIGHBOUR: 'it returns false'. Refute it at one input. -/
def fnExactUnitOfWrong : ChangeSpec := { name := "fnExactUnitOf", fn := fun _ => fun
  | [d1, d2] => { results := [.lit (.bool false)], args := [d1, d2] }
  | _ => none }
def FnExactUnitOfWrongFalsely : Prop := fnExactUnitOfRow.holds Try.pinned (OpenSpec.ofChange fnExactUnitOfWrong)

/-- 'laws.FnExactPlanBound': WHATEVER THE INPUT: true; the input reads as it did. -/
def fnExactPlanBoundSpec : ChangeSpec := { name := "fnExactPlanBound", fn := fun _ => fun
  | [d1, d2] => { results := [.lit (.bool true)], args := [d1, d2] }
  | _ => none }
def fnExactPlanBoundRow : OpenClaim := { program := "ytmckompikbechaa", sum := "60389a0c7b14fd624103288c0381b097add6cbdd92dfdeceb82cdfc27d38a48f", func := "loop.example/g00912/laws.FnExactPlanBound", spec := "fnExactPlanBound", recurses := true, apart := false }
def FnExactPlanBoundSaid : Prop := fnExactPlanBoundRow.holds Try.pinned (OpenSpec.ofChange fnExactPlanBoundSpec)

/-- ITS FALSE NEIGHBOUR: 'it returns false'. Refute it at one input. -/
def fnExactPlanBoundWrong : ChangeSpec := { name := "fnExactPlanBound", fn := fun _ => fun
  | [d1, d2] => { results := [.lit (.bool false)], args := [d1, d2] }
  | _ => none }
def FnExactPlanBoundWrongFalsely : Prop := fnExactPlanBoundRow.holds Try.pinned (OpenSpec.ofChange fnExactPlanBoundWrong)

/-- 'laws.FnExactFamilyBases': WHATEVER THE INPUT: true; the input reads as it did. -/
def fnExactFamilyBasesSpec : ChangeSpec := { name := "fnExactFamilyBases", fn := fun _ => fun
  | [d1, d2] => { results := [.lit (.bool true)], args := [d1, d2] }
  | _ => none }
def fnExactFamilyBasesRow : OpenClaim := { program := "ytmckompikbechaa", sum := "60389a0c7b14fd624103288c0381b097add6cbdd92dfdeceb82cdfc27d38a48f", func := "loop.example/g00912/laws.FnExactFamilyBases", spec := "fnExactFamilyBases", unfollowed := true, recurses := true, apart := false }
def FnExactFamilyBasesSaid : Prop := fnExactFamilyBasesRow.holds Try.pinned (OpenSpec.ofChange fnExactFamilyBasesSpec)

/-- ITS FALSE NEIGHBOUR: 'it returns false'. Refute it at one input. -/
def fnExactFamilyBasesWrong : ChangeSpec := { name := "fnExactFamilyBases", fn := fun _ => fun
  | [d1, d2] => { results := [.lit (.bool false)], args := [d1, d2] }
  | _ => none }
def FnExactFamilyBasesWrongFalsely : Prop := fnExactFamilyBasesRow.holds Try.pinned (OpenSpec.ofChange fnExactFamilyBasesWrong)

/-- 'laws.FnExactMarkLosses': WHATEVER THE INPUT: true; the input reads as it did. -/
def fnExactMarkLossesSpec : ChangeSpec := { name := "fnExactMarkLosses", fn := fun _ => fun
  | [d1, d2] => { results := [.lit (.bool true)], args := [d1, d2] }
  | _ => none }
def fnExactMarkLossesRow : OpenClaim := { program := "ytmckompikbechaa", sum := "60389a0c7b14fd624103288c0381b097add6cbdd92dfdeceb82cdfc27d38a48f", func := "loop.example/g00912/laws.FnExactMarkLosses", spec := "fnExactMarkLosses", unfollowed := true, recurses := true, apart := false }
def FnExactMarkLossesSaid : Prop := fnExactMarkLossesRow.holds Try.pinned (OpenSpec.ofChange fnExactMarkLossesSpec)

/-- ITS FALSE NEIGHBOUR: 'it returns false'. Refute it at one input. -/
def fnExactMarkLossesWrong : ChangeSpec := { name := "fnExactMarkLosses", fn := fun _ => fun
  | [d1, d2] => { results := [.lit (.bool false)], args := [d1, d2] }
  | _ => none }
def FnExactMarkLossesWrongFalsely : Prop := fnExactMarkLossesRow.holds Try.pinned (OpenSpec.ofChange fnExactMarkLossesWrong)

/-- 'laws.FnExactBestNames': WHATEVER THE INPUT: true; the input reads as it did. -/
def fnExactBestNamesSpec : ChangeSpec := { name := "fnExactBestNames", fn := fun _ => fun
  | [d1, d2] => { results := [.lit (.bool true)], args := [d1, d2] }
  | _ => none }
def fnExactBestNamesRow : OpenClaim := { program := "ytmckompikbechaa", sum := "60389a0c7b14fd624103288c0381b097add6cbdd92dfdeceb82cdfc27d38a48f", func := "loop.example/g00912/laws.FnExactBestNames", spec := "fnExactBestNames", unfollowed := true, recurses := true, apart := false }
def FnExactBestNamesSaid : Prop := fnExactBestNamesRow.holds Try.pinned (OpenSpec.ofChange fnExactBestNamesSpec)

/-- ITS FALSE NEIGHBOUR: 'it returns false'. Refute it at one input. -/
def fnExactBestNamesWrong : ChangeSpec := { name := "fnExactBestNames", fn := fun _ => fun
  | [d1, d2] => { results := [.lit (.bool false)], args := [d1, d2] }
  | _ => none }
def FnExactBestNamesWrongFalsely : Prop := fnExactBestNamesRow.holds Try.pinned (OpenSpec.ofChange fnExactBestNamesWrong)

/- THE SECOND FORM. 'bulk': how many values and letters a reading holds, each counted each time it is reached (what is shared counts as often as it is met; a slice's spare places count too). A statement '..UptoSaid' is the law's where the arguments, and the package variables that the reading takes, are together of bulk at most 1048576: NARROWER than '..Said'. Prove '..Said' where nothing that the law and all that it calls make is longer than what came in: it says more and counts as full. Else prove '..UptoSaid'. A law counts once. -/
mutual
def uptoBulk {H : Type} : DataW H → Nat
  | .lit (.string bytes) => bytes.length + 1
  | .lit _ => 1
  | .nil => 1
  | .ptr d => uptoBulk d + 1
  | .slice elems spare => uptoBulkAll elems + uptoBulkAll spare + 1
  | .agg parts => uptoBulkAll parts + 1
  | .iface _ d => uptoBulk d + 1
  | .map entries => uptoBulkEntries entries + 1
  | .held _ => 1
def uptoBulkAll {H : Type} : List (DataW H) → Nat
  | [] => 0
  | d :: r => uptoBulk d + uptoBulkAll r
def uptoBulkEntries {H : Type} : List (Lit × DataW H) → Nat
  | [] => 0
  | x :: r => uptoBulkEntry x + uptoBulkEntries r
def uptoBulkEntry {H : Type} : Lit × DataW H → Nat
  | (.string bytes, d) => bytes.length + uptoBulk d + 1
  | (_, d) => uptoBulk d + 1
 end
def uptoSmall : (H : Type) → List (DataW H) → Bool := fun _ ds => decide (uptoBulkAll ds ≤ 1048576)
def OpenSpec.upto (s : _root_.Go.ChangeSpec) : _root_.Go.OpenSpec := { _root_.Go.OpenSpec.ofChange s with cond := some uptoSmall }

/-- 'laws.FnExactNewSheet', WHERE WHAT IT READS IS OF BULK AT MOST 1048576: true; the input reads as it did. -/
def fnExactNewSheetUptoRow : OpenClaim := { program := "ytmckompikbechaa", sum := "60389a0c7b14fd624103288c0381b097add6cbdd92dfdeceb82cdfc27d38a48f", func := "loop.example/g00912/laws.FnExactNewSheet", spec := "fnExactNewSheet", apart := false, narrowed := true }
def FnExactNewSheetUptoSaid : Prop := fnExactNewSheetUptoRow.holds Try.pinned (OpenSpec.upto fnExactNewSheetSpec)

/-- 'laws.FnExactVoteCall', WHERE WHAT IT READS IS OF BULK AT MOST 1048576: true; the input reads as it did. -/
def fnExactVoteCallUptoRow : OpenClaim := { program := "ytmckompikbechaa", sum := "60389a0c7b14fd624103288c0381b097add6cbdd92dfdeceb82cdfc27d38a48f", func := "loop.example/g00912/laws.FnExactVoteCall", spec := "fnExactVoteCall", apart := false, narrowed := true }
def FnExactVoteCallUptoSaid : Prop := fnExactVoteCallUptoRow.holds Try.pinned (OpenSpec.upto fnExactVoteCallSpec)

/-- 'laws.FnExactAddReview', WHERE WHAT IT READS IS OF BULK AT MOST 1048576: true; the input reads as it did. -/
def fnExactAddReviewUptoRow : OpenClaim := { program := "ytmckompikbechaa", sum := "60389a0c7b14fd624103288c0381b097add6cbdd92dfdeceb82cdfc27d38a48f", func := "loop.example/g00912/laws.FnExactAddReview", spec := "fnExactAddReview", apart := false, narrowed := true }
def FnExactAddReviewUptoSaid : Prop := fnExactAddReviewUptoRow.holds Try.pinned (OpenSpec.upto fnExactAddReviewSpec)

/-- 'laws.FnExactMostSingles', WHERE WHAT IT READS IS OF BULK AT MOST 1048576: true; the input reads as it did. -/
def fnExactMostSinglesUptoRow : OpenClaim := { program := "ytmckompikbechaa", sum := "60389a0c7b14fd624103288c0381b097add6cbdd92dfdeceb82cdfc27d38a48f", func := "loop.example/g00912/laws.FnExactMostSingles", spec := "fnExactMostSingles", apart := false, narrowed := true }
def FnExactMostSinglesUptoSaid : Prop := fnExactMostSinglesUptoRow.holds Try.pinned (OpenSpec.upto fnExactMostSinglesSpec)

/-- 'laws.FnExactCountSingles', WHERE WHAT IT READS IS OF BULK AT MOST 1048576: true; the input reads as it did. -/
def fnExactCountSinglesUptoRow : OpenClaim := { program := "ytmckompikbechaa", sum := "60389a0c7b14fd624103288c0381b097add6cbdd92dfdeceb82cdfc27d38a48f", func := "loop.example/g00912/laws.FnExactCountSingles", spec := "fnExactCountSingles", apart := false, narrowed := true }
def FnExactCountSinglesUptoSaid : Prop := fnExactCountSinglesUptoRow.holds Try.pinned (OpenSpec.upto fnExactCountSinglesSpec)

/-- 'laws.FnExactUnitOf', WHERE WHAT IT READS IS OF BULK AT MOST 1048576: true; the input reads as it did. -/
def fnExactUnitOfUptoRow : OpenClaim := { program := "ytmckompikbechaa", sum := "60389a0c7b14fd624103288c0381b097add6cbdd92dfdeceb82cdfc27d38a48f", func := "loop.example/g00912/laws.FnExactUnitOf", spec := "fnExactUnitOf", unfollowed := true, recurses := true, apart := false, narrowed := true }
def FnExactUnitOfUptoSaid : Prop := fnExactUnitOfUptoRow.holds Try.pinned (OpenSpec.upto fnExactUnitOfSpec)

/-- 'laws.FnExactPlanBound', WHERE WHAT IT READS IS OF BULK AT MOST 1048576: true; the input reads as it did. -/
def fnExactPlanBoundUptoRow : OpenClaim := { program := "ytmckompikbechaa", sum := "60389a0c7b14fd624103288c0381b097add6cbdd92dfdeceb82cdfc27d38a48f", func := "loop.example/g00912/laws.FnExactPlanBound", spec := "fnExactPlanBound", recurses := true, apart := false, narrowed := true }
def FnExactPlanBoundUptoSaid : Prop := fnExactPlanBoundUptoRow.holds Try.pinned (OpenSpec.upto fnExactPlanBoundSpec)

/-- 'laws.FnExactFamilyBases', WHERE WHAT IT READS IS OF BULK AT MOST 1048576: true; the input reads as it did. -/
def fnExactFamilyBasesUptoRow : OpenClaim := { program := "ytmckompikbechaa", sum := "60389a0c7b14fd624103288c0381b097add6cbdd92dfdeceb82cdfc27d38a48f", func := "loop.example/g00912/laws.FnExactFamilyBases", spec := "fnExactFamilyBases", unfollowed := true, recurses := true, apart := false, narrowed := true }
def FnExactFamilyBasesUptoSaid : Prop := fnExactFamilyBasesUptoRow.holds Try.pinned (OpenSpec.upto fnExactFamilyBasesSpec)

/-- 'laws.FnExactMarkLosses', WHERE WHAT IT READS IS OF BULK AT MOST 1048576: true; the input reads as it did. -/
def fnExactMarkLossesUptoRow : OpenClaim := { program := "ytmckompikbechaa", sum := "60389a0c7b14fd624103288c0381b097add6cbdd92dfdeceb82cdfc27d38a48f", func := "loop.example/g00912/laws.FnExactMarkLosses", spec := "fnExactMarkLosses", unfollowed := true, recurses := true, apart := false, narrowed := true }
def FnExactMarkLossesUptoSaid : Prop := fnExactMarkLossesUptoRow.holds Try.pinned (OpenSpec.upto fnExactMarkLossesSpec)

/-- 'laws.FnExactBestNames', WHERE WHAT IT READS IS OF BULK AT MOST 1048576: true; the input reads as it did. -/
def fnExactBestNamesUptoRow : OpenClaim := { program := "ytmckompikbechaa", sum := "60389a0c7b14fd624103288c0381b097add6cbdd92dfdeceb82cdfc27d38a48f", func := "loop.example/g00912/laws.FnExactBestNames", spec := "fnExactBestNames", unfollowed := true, recurses := true, apart := false, narrowed := true }
def FnExactBestNamesUptoSaid : Prop := fnExactBestNamesUptoRow.holds Try.pinned (OpenSpec.upto fnExactBestNamesSpec)

end Rows
end Go.Proofs.Ytmckompikbechaa
