/-
  No cell of these rows narrows 'for every input' (looked for: loops, veiled, ifaces, maps, wideKeys, modest, calm, conditions, laid).
  DERIVED. THE GIVEN ROWS OF THIS SEAT. 12 by the template 'for every input the law returns true; each argument reads behind the call as it read before'; 0 by the template 'total and deterministic' (their statements: YtigfhllnfgfdoaaTotals.lean).
  GIVEN WITH THE SEED: the statements are not yours to turn. If you find one false, say at which input.
  Laid BY PROGRAM, IN A SANDBOX (cutbox-rows.mjs): the forced cells as the released guide's own fill.sh prints them over the translation 296eaee0ff944d09… (all of the seat's roots in one cut). By AI agents, Wed Nov 11 2026. No macro, syntax, notation, axiom, sorry.
-/
import Derived.Test.YtigfhllnfgfdoaaChecked
import GoSem.Claim
import GoSem.ClaimJoined
import GoSem.ClaimMapViews
import Derived.JoinedTies
import Derived.KernelRfl
namespace Go.Proofs.Ytigfhllnfgfdoaa
/- THE CELL 'sum', in the pinned program and in every row, IS THE sha256 OF THE DUMP (.gsa) THAT YtigfhllnfgfdoaaProg.lean LOADS. Nothing in Lean hashes anything: it is a label: what it is worth is what the hold of that sum in a sandbox is worth. -/
noncomputable def Try.pinned : Pinned := { name := "ytigfhllnfgfdoaa", sum := "296eaee0ff944d09270d52c9711f9480d00fef3421e7a616b7e2bf72e13946fd", checked := Try.checked }
namespace Rows
def none {H : Type} : Left H := { results := [], args := [] }

/-- 'laws.FnExactIsSheet': WHATEVER THE INPUT: true; the input reads as it did. -/
def fnExactIsSheetSpec : ChangeSpec := { name := "fnExactIsSheet", fn := fun _ => fun
  | [d] => { results := [.lit (.bool true)], args := [d] }
  | _ => none }
def fnExactIsSheetRow : OpenClaim := { program := "ytigfhllnfgfdoaa", sum := "296eaee0ff944d09270d52c9711f9480d00fef3421e7a616b7e2bf72e13946fd", func := "loop.example/g00912/laws.FnExactIsSheet", spec := "fnExactIsSheet", apart := false }
def FnExactIsSheetSaid : Prop := fnExactIsSheetRow.holds Try.pinned (OpenSpec.ofChange fnExactIsSheetSpec)

/-- ITS FALSE NEIGHBOUR: 'it returns false'. Refute it at one input. -/
def fnExactIsSheetWrong : ChangeSpec := { name := "fnExactIsSheet", fn := fun _ => fun
  | [d] => { results := [.lit (.bool false)], args := [d] }
  | _ => none }
def FnExactIsSheetWrongFalsely : Prop := fnExactIsSheetRow.holds Try.pinned (OpenSpec.ofChange fnExactIsSheetWrong)

/-- 'laws.FnExactCallOf': WHATEVER THE INPUT: true; the input reads as it did. -/
def fnExactCallOfSpec : ChangeSpec := { name := "fnExactCallOf", fn := fun _ => fun
  | [d1, d2, d3] => { results := [.lit (.bool true)], args := [d1, d2, d3] }
  | _ => none }
def fnExactCallOfRow : OpenClaim := { program := "ytigfhllnfgfdoaa", sum := "296eaee0ff944d09270d52c9711f9480d00fef3421e7a616b7e2bf72e13946fd", func := "loop.example/g00912/laws.FnExactCallOf", spec := "fnExactCallOf", apart := false }
def FnExactCallOfSaid : Prop := fnExactCallOfRow.holds Try.pinned (OpenSpec.ofChange fnExactCallOfSpec)

/-- ITS FALSE NEIGHBOUR: 'it returns false'. Refute it at one input. -/
def fnExactCallOfWrong : ChangeSpec := { name := "fnExactCallOf", fn := fun _ => fun
  | [d1, d2, d3] => { results := [.lit (.bool false)], args := [d1, d2, d3] }
  | _ => none }
def FnExactCallOfWrongFalsely : Prop := fnExactCallOfRow.holds Try.pinned (OpenSpec.ofChange fnExactCallOfWrong)

/-- 'laws.FnExactNewSheet': WHATEVER THE INPUT: true; the input reads as it did. -/
def fnExactNewSheetSpec : ChangeSpec := { name := "fnExactNewSheet", fn := fun _ => fun
  | [d] => { results := [.lit (.bool true)], args := [d] }
  | _ => none }
def fnExactNewSheetRow : OpenClaim := { program := "ytigfhllnfgfdoaa", sum := "296eaee0ff944d09270d52c9711f9480d00fef3421e7a616b7e2bf72e13946fd", func := "loop.example/g00912/laws.FnExactNewSheet", spec := "fnExactNewSheet", apart := false }
def FnExactNewSheetSaid : Prop := fnExactNewSheetRow.holds Try.pinned (OpenSpec.ofChange fnExactNewSheetSpec)

/-- ITS FALSE NEIGHBOUR: 'it returns false'. Refute it at one input. -/
def fnExactNewSheetWrong : ChangeSpec := { name := "fnExactNewSheet", fn := fun _ => fun
  | [d] => { results := [.lit (.bool false)], args := [d] }
  | _ => none }
def FnExactNewSheetWrongFalsely : Prop := fnExactNewSheetRow.holds Try.pinned (OpenSpec.ofChange fnExactNewSheetWrong)

/-- 'laws.FnExactIsFinal': WHATEVER THE INPUT: true; the input reads as it did. -/
def fnExactIsFinalSpec : ChangeSpec := { name := "fnExactIsFinal", fn := fun _ => fun
  | [d] => { results := [.lit (.bool true)], args := [d] }
  | _ => none }
def fnExactIsFinalRow : OpenClaim := { program := "ytigfhllnfgfdoaa", sum := "296eaee0ff944d09270d52c9711f9480d00fef3421e7a616b7e2bf72e13946fd", func := "loop.example/g00912/laws.FnExactIsFinal", spec := "fnExactIsFinal", unfollowed := true, recurses := true, apart := false }
def FnExactIsFinalSaid : Prop := fnExactIsFinalRow.holds Try.pinned (OpenSpec.ofChange fnExactIsFinalSpec)

/-- ITS FALSE NEIGHBOUR: 'it returns false'. Refute it at one input. -/
def fnExactIsFinalWrong : ChangeSpec := { name := "fnExactIsFinal", fn := fun _ => fun
  | [d] => { results := [.lit (.bool false)], args := [d] }
  | _ => none }
def FnExactIsFinalWrongFalsely : Prop := fnExactIsFinalRow.holds Try.pinned (OpenSpec.ofChange fnExactIsFinalWrong)

/-- 'laws.FnExactDissents': WHATEVER THE INPUT: true; the input reads as it did. -/
def fnExactDissentsSpec : ChangeSpec := { name := "fnExactDissents", fn := fun _ => fun
  | [d] => { results := [.lit (.bool true)], args := [d] }
  | _ => none }
def fnExactDissentsRow : OpenClaim := { program := "ytigfhllnfgfdoaa", sum := "296eaee0ff944d09270d52c9711f9480d00fef3421e7a616b7e2bf72e13946fd", func := "loop.example/g00912/laws.FnExactDissents", spec := "fnExactDissents", unfollowed := true, recurses := true, apart := false }
def FnExactDissentsSaid : Prop := fnExactDissentsRow.holds Try.pinned (OpenSpec.ofChange fnExactDissentsSpec)

/-- ITS FALSE NEIGHBOUR: 'it returns false'. Refute it at one input. -/
def fnExactDissentsWrong : ChangeSpec := { name := "fnExactDissents", fn := fun _ => fun
  | [d] => { results := [.lit (.bool false)], args := [d] }
  | _ => none }
def FnExactDissentsWrongFalsely : Prop := fnExactDissentsRow.holds Try.pinned (OpenSpec.ofChange fnExactDissentsWrong)

/-- 'laws.FnExactOpenCalls': WHATEVER THE INPUT: true; the input reads as it did. -/
def fnExactOpenCallsSpec : ChangeSpec := { name := "fnExactOpenCalls", fn := fun _ => fun
  | [d] => { results := [.lit (.bool true)], args := [d] }
  | _ => none }
def fnExactOpenCallsRow : OpenClaim := { program := "ytigfhllnfgfdoaa", sum := "296eaee0ff944d09270d52c9711f9480d00fef3421e7a616b7e2bf72e13946fd", func := "loop.example/g00912/laws.FnExactOpenCalls", spec := "fnExactOpenCalls", unfollowed := true, recurses := true, apart := false }
def FnExactOpenCallsSaid : Prop := fnExactOpenCallsRow.holds Try.pinned (OpenSpec.ofChange fnExactOpenCallsSpec)

/-- ITS FALSE NEIGHBOUR: 'it returns false'. Refute it at one input. -/
def fnExactOpenCallsWrong : ChangeSpec := { name := "fnExactOpenCalls", fn := fun _ => fun
  | [d] => { results := [.lit (.bool false)], args := [d] }
  | _ => none }
def FnExactOpenCallsWrongFalsely : Prop := fnExactOpenCallsRow.holds Try.pinned (OpenSpec.ofChange fnExactOpenCallsWrong)

/-- 'laws.FnExactChangedCalls': WHATEVER THE INPUT: true; the input reads as it did. -/
def fnExactChangedCallsSpec : ChangeSpec := { name := "fnExactChangedCalls", fn := fun _ => fun
  | [d1, d2] => { results := [.lit (.bool true)], args := [d1, d2] }
  | _ => none }
def fnExactChangedCallsRow : OpenClaim := { program := "ytigfhllnfgfdoaa", sum := "296eaee0ff944d09270d52c9711f9480d00fef3421e7a616b7e2bf72e13946fd", func := "loop.example/g00912/laws.FnExactChangedCalls", spec := "fnExactChangedCalls", unfollowed := true, recurses := true, apart := false }
def FnExactChangedCallsSaid : Prop := fnExactChangedCallsRow.holds Try.pinned (OpenSpec.ofChange fnExactChangedCallsSpec)

/-- ITS FALSE NEIGHBOUR: 'it returns false'. Refute it at one input. -/
def fnExactChangedCallsWrong : ChangeSpec := { name := "fnExactChangedCalls", fn := fun _ => fun
  | [d1, d2] => { results := [.lit (.bool false)], args := [d1, d2] }
  | _ => none }
def FnExactChangedCallsWrongFalsely : Prop := fnExactChangedCallsRow.holds Try.pinned (OpenSpec.ofChange fnExactChangedCallsWrong)

/-- 'laws.FnExactAddReview': WHATEVER THE INPUT: true; the input reads as it did. -/
def fnExactAddReviewSpec : ChangeSpec := { name := "fnExactAddReview", fn := fun _ => fun
  | [d1, d2] => { results := [.lit (.bool true)], args := [d1, d2] }
  | _ => none }
def fnExactAddReviewRow : OpenClaim := { program := "ytigfhllnfgfdoaa", sum := "296eaee0ff944d09270d52c9711f9480d00fef3421e7a616b7e2bf72e13946fd", func := "loop.example/g00912/laws.FnExactAddReview", spec := "fnExactAddReview", apart := false }
def FnExactAddReviewSaid : Prop := fnExactAddReviewRow.holds Try.pinned (OpenSpec.ofChange fnExactAddReviewSpec)

/-- ITS FALSE NEIGHBOUR: 'it returns false'. Refute it at one input. -/
def fnExactAddReviewWrong : ChangeSpec := { name := "fnExactAddReview", fn := fun _ => fun
  | [d1, d2] => { results := [.lit (.bool false)], args := [d1, d2] }
  | _ => none }
def FnExactAddReviewWrongFalsely : Prop := fnExactAddReviewRow.holds Try.pinned (OpenSpec.ofChange fnExactAddReviewWrong)

/-- 'laws.FnExactVoteCall': WHATEVER THE INPUT: true; the input reads as it did. -/
def fnExactVoteCallSpec : ChangeSpec := { name := "fnExactVoteCall", fn := fun _ => fun
  | [d1, d2, d3, d4, d5] => { results := [.lit (.bool true)], args := [d1, d2, d3, d4, d5] }
  | _ => none }
def fnExactVoteCallRow : OpenClaim := { program := "ytigfhllnfgfdoaa", sum := "296eaee0ff944d09270d52c9711f9480d00fef3421e7a616b7e2bf72e13946fd", func := "loop.example/g00912/laws.FnExactVoteCall", spec := "fnExactVoteCall", apart := false }
def FnExactVoteCallSaid : Prop := fnExactVoteCallRow.holds Try.pinned (OpenSpec.ofChange fnExactVoteCallSpec)

/-- ITS FALSE NEIGHBOUR: 'it returns false'. Refute it at one input. -/
def fnExactVoteCallWrong : ChangeSpec := { name := "fnExactVoteCall", fn := fun _ => fun
  | [d1, d2, d3, d4, d5] => { results := [.lit (.bool false)], args := [d1, d2, d3, d4, d5] }
  | _ => none }
def FnExactVoteCallWrongFalsely : Prop := fnExactVoteCallRow.holds Try.pinned (OpenSpec.ofChange fnExactVoteCallWrong)

/-- 'laws.FnExactCalledItems': WHATEVER THE INPUT: true; the input reads as it did. -/
def fnExactCalledItemsSpec : ChangeSpec := { name := "fnExactCalledItems", fn := fun _ => fun
  | [d] => { results := [.lit (.bool true)], args := [d] }
  | _ => none }
def fnExactCalledItemsRow : OpenClaim := { program := "ytigfhllnfgfdoaa", sum := "296eaee0ff944d09270d52c9711f9480d00fef3421e7a616b7e2bf72e13946fd", func := "loop.example/g00912/laws.FnExactCalledItems", spec := "fnExactCalledItems", unfollowed := true, recurses := true, apart := false }
def FnExactCalledItemsSaid : Prop := fnExactCalledItemsRow.holds Try.pinned (OpenSpec.ofChange fnExactCalledItemsSpec)

/-- ITS FALSE NEIGHBOUR: 'it returns false'. Refute it at one input. -/
def fnExactCalledItemsWrong : ChangeSpec := { name := "fnExactCalledItems", fn := fun _ => fun
  | [d] => { results := [.lit (.bool false)], args := [d] }
  | _ => none }
def FnExactCalledItemsWrongFalsely : Prop := fnExactCalledItemsRow.holds Try.pinned (OpenSpec.ofChange fnExactCalledItemsWrong)

/-- 'laws.FnExactMostSingles': WHATEVER THE INPUT: true; the input reads as it did. -/
def fnExactMostSinglesSpec : ChangeSpec := { name := "fnExactMostSingles", fn := fun _ => fun
  | [d] => { results := [.lit (.bool true)], args := [d] }
  | _ => none }
def fnExactMostSinglesRow : OpenClaim := { program := "ytigfhllnfgfdoaa", sum := "296eaee0ff944d09270d52c9711f9480d00fef3421e7a616b7e2bf72e13946fd", func := "loop.example/g00912/laws.FnExactMostSingles", spec := "fnExactMostSingles", apart := false }
def FnExactMostSinglesSaid : Prop := fnExactMostSinglesRow.holds Try.pinned (OpenSpec.ofChange fnExactMostSinglesSpec)

/-- ITS FALSE NEIGHBOUR: 'it returns false'. Refute it at one input. -/
def fnExactMostSinglesWrong : ChangeSpec := { name := "fnExactMostSingles", fn := fun _ => fun
  | [d] => { results := [.lit (.bool false)], args := [d] }
  | _ => none }
def FnExactMostSinglesWrongFalsely : Prop := fnExactMostSinglesRow.holds Try.pinned (OpenSpec.ofChange fnExactMostSinglesWrong)

/-- 'laws.FnExactUnitOf': WHATEVER THE INPUT: true; the input reads as it did. -/
def fnExactUnitOfSpec : ChangeSpec := { name := "fnExactUnitOf", fn := fun _ => fun
  | [d1, d2] => { results := [.lit (.bool true)], args := [d1, d2] }
  | _ => none }
def fnExactUnitOfRow : OpenClaim := { program := "ytigfhllnfgfdoaa", sum := "296eaee0ff944d09270d52c9711f9480d00fef3421e7a616b7e2bf72e13946fd", func := "loop.example/g00912/laws.FnExactUnitOf", spec := "fnExactUnitOf", unfollowed := true, recurses := true, apart := false }
def FnExactUnitOfSaid : Prop := fnExactUnitOfRow.holds Try.pinned (OpenSpec.ofChange fnExactUnitOfSpec)

/-- ITS FALSE NEIGHBOUR: 'it returns false'. Refute it at one input. -/
def fnExactUnitOfWrong : ChangeSpec := { name := "fnExactUnitOf", fn := fun _ => fun
  | [d1, d2] => { results := [.lit (.bool false)], args := [d1, d2] }
  | _ => none }
def FnExactUnitOfWrongFalsely : Prop := fnExactUnitOfRow.holds Try.pinned (OpenSpec.ofChange fnExactUnitOfWrong)

/- THE SECOND FORM. 'bulk': how many values and letters a reading holds, each counted each time it is reached (what is shared counts as often as it is met; a slice's spare places count too). A statement '..UptoSaid' is the law's where the arguments, and the package variables that the reading takes, are together of bulk at most 1048576: NARROWER than '..Said'. Prove '..Said' where nothing that the law and all that it calls make is longer than what came in: it says more and counts as full. Else prove '..UptoSaid'. A law counts once. -/
mutual
def uptoBulk {H : Type} : DataW H → Nat
  | .lit (.string bytes) => bytes.length + 1
  | .lit _ => 1
  | .nil => 1
  | .ptr d => uptoBulk d + 1
  | .slice elems spare => uptoBulkAll elems + uptoBulkAll spare + 1
  | .agg parts => uptoBulkAll parts + 1
  | .iface _ d => uptoBulk d + 1
  | .map entries => uptoBulkEntries entries + 1
  | .held _ => 1
def uptoBulkAll {H : Type} : List (DataW H) → Nat
  | [] => 0
  | d :: r => uptoBulk d + uptoBulkAll r
def uptoBulkEntries {H : Type} : List (Lit × DataW H) → Nat
  | [] => 0
  | x :: r => uptoBulkEntry x + uptoBulkEntries r
def uptoBulkEntry {H : Type} : Lit × DataW H → Nat
  | (.string bytes, d) => bytes.length + uptoBulk d + 1
  | (_, d) => uptoBulk d + 1
 end
def uptoSmall : (H : Type) → List (DataW H) → Bool := fun _ ds => decide (uptoBulkAll ds ≤ 1048576)
def OpenSpec.upto (s : _root_.Go.ChangeSpec) : _root_.Go.OpenSpec := { _root_.Go.OpenSpec.ofChange s with cond := some uptoSmall }

/-- 'laws.FnExactIsSheet', WHERE WHAT IT READS IS OF BULK AT MOST 1048576: true; the input reads as it did. -/
def fnExactIsSheetUptoRow : OpenClaim := { program := "ytigfhllnfgfdoaa", sum := "296eaee0ff944d09270d52c9711f9480d00fef3421e7a616b7e2bf72e13946fd", func := "loop.example/g00912/laws.FnExactIsSheet", spec := "fnExactIsSheet", apart := false, narrowed := true }
def FnExactIsSheetUptoSaid : Prop := fnExactIsSheetUptoRow.holds Try.pinned (OpenSpec.upto fnExactIsSheetSpec)

/-- 'laws.FnExactCallOf', WHERE WHAT IT READS IS OF BULK AT MOST 1048576: true; the input reads as it did. -/
def fnExactCallOfUptoRow : OpenClaim := { program := "ytigfhllnfgfdoaa", sum := "296eaee0ff944d09270d52c9711f9480d00fef3421e7a616b7e2bf72e13946fd", func := "loop.example/g00912/laws.FnExactCallOf", spec := "fnExactCallOf", apart := false, narrowed := true }
def FnExactCallOfUptoSaid : Prop := fnExactCallOfUptoRow.holds Try.pinned (OpenSpec.upto fnExactCallOfSpec)

/-- 'laws.FnExactNewSheet', WHERE WHAT IT READS IS OF BULK AT MOST 1048576: true; the input reads as it did. -/
def fnExactNewSheetUptoRow : OpenClaim := { program := "ytigfhllnfgfdoaa", sum := "296eaee0ff944d09270d52c9711f9480d00fef3421e7a616b7e2bf72e13946fd", func := "loop.example/g00912/laws.FnExactNewSheet", spec := "fnExactNewSheet", apart := false, narrowed := true }
def FnExactNewSheetUptoSaid : Prop := fnExactNewSheetUptoRow.holds Try.pinned (OpenSpec.upto fnExactNewSheetSpec)

/-- 'laws.FnExactIsFinal', WHERE WHAT IT READS IS OF BULK AT MOST 1048576: true; the input reads as it did. -/
def fnExactIsFinalUptoRow : OpenClaim := { program := "ytigfhllnfgfdoaa", sum := "296eaee0ff944d09270d52c9711f9480d00fef3421e7a616b7e2bf72e13946fd", func := "loop.example/g00912/laws.FnExactIsFinal", spec := "fnExactIsFinal", unfollowed := true, recurses := true, apart := false, narrowed := true }
def FnExactIsFinalUptoSaid : Prop := fnExactIsFinalUptoRow.holds Try.pinned (OpenSpec.upto fnExactIsFinalSpec)

/-- 'laws.FnExactDissents', WHERE WHAT IT READS IS OF BULK AT MOST 1048576: true; the input reads as it did. -/
def fnExactDissentsUptoRow : OpenClaim := { program := "ytigfhllnfgfdoaa", sum := "296eaee0ff944d09270d52c9711f9480d00fef3421e7a616b7e2bf72e13946fd", func := "loop.example/g00912/laws.FnExactDissents", spec := "fnExactDissents", unfollowed := true, recurses := true, apart := false, narrowed := true }
def FnExactDissentsUptoSaid : Prop := fnExactDissentsUptoRow.holds Try.pinned (OpenSpec.upto fnExactDissentsSpec)

/-- 'laws.FnExactOpenCalls', WHERE WHAT IT READS IS OF BULK AT MOST 1048576: true; the input reads as it did. -/
def fnExactOpenCallsUptoRow : OpenClaim := { program := "ytigfhllnfgfdoaa", sum := "296eaee0ff944d09270d52c9711f9480d00fef3421e7a616b7e2bf72e13946fd", func := "loop.example/g00912/laws.FnExactOpenCalls", spec := "fnExactOpenCalls", unfollowed := true, recurses := true, apart := false, narrowed := true }
def FnExactOpenCallsUptoSaid : Prop := fnExactOpenCallsUptoRow.holds Try.pinned (OpenSpec.upto fnExactOpenCallsSpec)

/-- 'laws.FnExactChangedCalls', WHERE WHAT IT READS IS OF BULK AT MOST 1048576: true; the input reads as it did. -/
def fnExactChangedCallsUptoRow : OpenClaim := { program := "ytigfhllnfgfdoaa", sum := "296eaee0ff944d09270d52c9711f9480d00fef3421e7a616b7e2bf72e13946fd", func := "loop.example/g00912/laws.FnExactChangedCalls", spec := "fnExactChangedCalls", unfollowed := true, recurses := true, apart := false, narrowed := true }
def FnExactChangedCallsUptoSaid : Prop := fnExactChangedCallsUptoRow.holds Try.pinned (OpenSpec.upto fnExactChangedCallsSpec)

/-- 'laws.FnExactAddReview', WHERE WHAT IT READS IS OF BULK AT MOST 1048576: true; the input reads as it did. -/
def fnExactAddReviewUptoRow : OpenClaim := { program := "ytigfhllnfgfdoaa", sum := "296eaee0ff944d09270d52c9711f9480d00fef3421e7a616b7e2bf72e13946fd", func := "loop.example/g00912/laws.FnExactAddReview", spec := "fnExactAddReview", apart := false, narrowed := true }
def FnExactAddReviewUptoSaid : Prop := fnExactAddReviewUptoRow.holds Try.pinned (OpenSpec.upto fnExactAddReviewSpec)

/-- 'laws.FnExactVoteCall', WHERE WHAT IT READS IS OF BULK AT MOST 1048576: true; the input reads as it did. -/
def fnExactVoteCallUptoRow : OpenClaim := { program := "ytigfhllnfgfdoaa", sum := "296eaee0ff944d09270d52c9711f9480d00fef3421e7a616b7e2bf72e13946fd", func := "loop.example/g00912/laws.FnExactVoteCall", spec := "fnExactVoteCall", apart := false, narrowed := true }
def FnExactVoteCallUptoSaid : Prop := fnExactVoteCallUptoRow.holds Try.pinned (OpenSpec.upto fnExactVoteCallSpec)

/-- 'laws.FnExactCalledItems', WHERE WHAT IT READS IS OF BULK AT MOST 1048576: true; the input reads as it did. -/
def fnExactCalledItemsUptoRow : OpenClaim := { program := "ytigfhllnfgfdoaa", sum := "296eaee0ff944d09270d52c9711f9480d00fef3421e7a616b7e2bf72e13946fd", func := "loop.example/g00912/laws.FnExactCalledItems", spec := "fnExactCalledItems", unfollowed := true, recurses := true, apart := false, narrowed := true }
def FnExactCalledItemsUptoSaid : Prop := fnExactCalledItemsUptoRow.holds Try.pinned (OpenSpec.upto fnExactCalledItemsSpec)

/-- 'laws.FnExactMostSingles', WHERE WHAT IT READS IS OF BULK AT MOST 1048576: true; the input reads as it did. -/
def fnExactMostSinglesUptoRow : OpenClaim := { program := "ytigfhllnfgfdoaa", sum := "296eaee0ff944d09270d52c9711f9480d00fef3421e7a616b7e2bf72e13946fd", func := "loop.example/g00912/laws.FnExactMostSingles", spec := "fnExactMostSingles", apart := false, narrowed := true }
def FnExactMostSinglesUptoSaid : Prop := fnExactMostSinglesUptoRow.holds Try.pinned (OpenSpec.upto fnExactMostSinglesSpec)

/-- 'laws.FnExactUnitOf', WHERE WHAT IT READS IS OF BULK AT MOST 1048576: true; the input reads as it did. -/
def fnExactUnitOfUptoRow : OpenClaim := { program := "ytigfhllnfgfdoaa", sum := "296eaee0ff944d09270d52c9711f9480d00fef3421e7a616b7e2bf72e13946fd", func := "loop.example/g00912/laws.FnExactUnitOf", spec := "fnExactUnitOf", unfollowed := true, recurses := true, apart := false, narrowed := true }
def FnExactUnitOfUptoSaid : Prop := fnExactUnitOfUptoRow.holds Try.pinned (OpenSpec.upto fnExactUnitOfSpec)

end Rows
end Go.Proofs.Ytigfhllnfgfdoaa
