/-
  No cell of these rows narrows 'for every input' (looked for: loops, veiled, ifaces, maps, wideKeys, modest, calm, conditions, laid).
  DERIVED. THE GIVEN ROWS OF THIS SEAT. 3 by the template 'for every input the law returns true; each argument reads behind the call as it read before'; 0 by the template 'total and deterministic' (their statements: YtcnpbaldnhfebaaTotals.lean).
  GIVEN WITH THE SEED: the statements are not yours to turn. If you find one false, say at which input.
  Laid BY PROGRAM, IN A SANDBOX (cutbox-rows.mjs): the forced cells as the released guide's own fill.sh prints them over the translation dd18b5eb6e8c50c2… (all of the seat's roots in one cut). By AI agents, Wed Nov 11 2026. No macro, syntax, notation, axiom, sorry.
-/
import Derived.Test.YtcnpbaldnhfebaaChecked
import GoSem.Claim
import GoSem.ClaimJoined
import GoSem.ClaimMapViews
import Derived.JoinedTies
import Derived.KernelRfl
namespace Go.Proofs.Ytcnpbaldnhfebaa
/- THE CELL 'sum', in the pinned program and in every row, IS THE sha256 OF THE DUMP (.gsa) THAT YtcnpbaldnhfebaaProg.lean LOADS. Nothing in Lean hashes anything: it is a label: what it is worth is what the hold of that sum in a sandbox is worth. -/
noncomputable def Try.pinned : Pinned := { name := "ytcnpbaldnhfebaa", sum := "dd18b5eb6e8c50c2f56ac22cb8ed47be86b731f9011961c809a4ba425b54e59a", checked := Try.checked }
namespace Rows
def none {H : Type} : Left H := { results := [], args := [] }

/-- 'laws.FnExactBestNames': WHATEVER THE INPUT: true; the input reads as it did. -/
def fnExactBestNamesSpec : ChangeSpec := { name := "fnExactBestNames", fn := fun _ => fun
  | [d1, d2] => { results := [.lit (.bool true)], args := [d1, d2] }
  | _ => none }
def fnExactBestNamesRow : OpenClaim := { program := "ytcnpbaldnhfebaa", sum := "dd18b5eb6e8c50c2f56ac22cb8ed47be86b731f9011961c809a4ba425b54e59a", func := "loop.example/g00912/laws.FnExactBestNames", spec := "fnExactBestNames", unfollowed := true, recurses := true, apart := false }
def FnExactBestNamesSaid : Prop := fnExactBestNamesRow.holds Try.pinned (OpenSpec.ofChange fnExactBestNamesSpec)

/-- ITS FALSE NEIGHBOUR: 'it returns false'. Refute it at one input. -/
def fnExactBestNamesWrong : ChangeSpec := { name := "fnExactBestNames", fn := fun _ => fun
  | [d1, d2] => { results := [.lit (.bool false)], args := [d1, d2] }
  | _ => none }
def FnExactBestNamesWrongFalsely : Prop := fnExactBestNamesRow.holds Try.pinned (OpenSpec.ofChange fnExactBestNamesWrong)

/-- 'laws.FnExactBestSingles': WHATEVER THE INPUT: true; the input reads as it did. -/
def fnExactBestSinglesSpec : ChangeSpec := { name := "fnExactBestSingles", fn := fun _ => fun
  | [d1, d2] => { results := [.lit (.bool true)], args := [d1, d2] }
  | _ => none }
def fnExactBestSinglesRow : OpenClaim := { program := "ytcnpbaldnhfebaa", sum := "dd18b5eb6e8c50c2f56ac22cb8ed47be86b731f9011961c809a4ba425b54e59a", func := "loop.example/g00912/laws.FnExactBestSingles", spec := "fnExactBestSingles", unfollowed := true, recurses := true, apart := false }
def FnExactBestSinglesSaid : Prop := fnExactBestSinglesRow.holds Try.pinned (OpenSpec.ofChange fnExactBestSinglesSpec)

/-- ITS FALSE NEIGHBOUR: 'it returns false'. Refute it at one input. -/
def fnExactBestSinglesWrong : ChangeSpec := { name := "fnExactBestSingles", fn := fun _ => fun
  | [d1, d2] => { results := [.lit (.bool false)], args := [d1, d2] }
  | _ => none }
def FnExactBestSinglesWrongFalsely : Prop := fnExactBestSinglesRow.holds Try.pinned (OpenSpec.ofChange fnExactBestSinglesWrong)

/-- 'laws.FnExactSinglesBase': WHATEVER THE INPUT: true; the input reads as it did. -/
def fnExactSinglesBaseSpec : ChangeSpec := { name := "fnExactSinglesBase", fn := fun _ => fun
  | [d1, d2] => { results := [.lit (.bool true)], args := [d1, d2] }
  | _ => none }
def fnExactSinglesBaseRow : OpenClaim := { program := "ytcnpbaldnhfebaa", sum := "dd18b5eb6e8c50c2f56ac22cb8ed47be86b731f9011961c809a4ba425b54e59a", func := "loop.example/g00912/laws.FnExactSinglesBase", spec := "fnExactSinglesBase", unfollowed := true, recurses := true, apart := false }
def FnExactSinglesBaseSaid : Prop := fnExactSinglesBaseRow.holds Try.pinned (OpenSpec.ofChange fnExactSinglesBaseSpec)

/-- ITS FALSE NEIGHBOUR: 'it returns false'. Refute it at one input. -/
def fnExactSinglesBaseWrong : ChangeSpec := { name := "fnExactSinglesBase", fn := fun _ => fun
  | [d1, d2] => { results := [.lit (.bool false)], args := [d1, d2] }
  | _ => none }
def FnExactSinglesBaseWrongFalsely : Prop := fnExactSinglesBaseRow.holds Try.pinned (OpenSpec.ofChange fnExactSinglesBaseWrong)

/- THE SECOND FORM. 'bulk': how many values and letters a reading holds, each counted each time it is reached (what is shared counts as often as it is met; a slice's spare places count too). A statement '..UptoSaid' is the law's where the arguments, and the package variables that the reading takes, are together of bulk at most 1048576: NARROWER than '..Said'. Prove '..Said' where nothing that the law and all that it calls make is longer than what came in: it says more and counts as full. Else prove '..UptoSaid'. A law counts once. -/
mutual
def uptoBulk {H : Type} : DataW H → Nat
  | .lit (.string bytes) => bytes.length + 1
  | .lit _ => 1
  | .nil => 1
  | .ptr d => uptoBulk d + 1
  | .slice elems spare => uptoBulkAll elems + uptoBulkAll spare + 1
  | .agg parts => uptoBulkAll parts + 1
  | .iface _ d => uptoBulk d + 1
  | .map entries => uptoBulkEntries entries + 1
  | .held _ => 1
def uptoBulkAll {H : Type} : List (DataW H) → Nat
  | [] => 0
  | d :: r => uptoBulk d + uptoBulkAll r
def uptoBulkEntries {H : Type} : List (Lit × DataW H) → Nat
  | [] => 0
  | x :: r => uptoBulkEntry x + uptoBulkEntries r
def uptoBulkEntry {H : Type} : Lit × DataW H → Nat
  | (.string bytes, d) => bytes.length + uptoBulk d + 1
  | (_, d) => uptoBulk d + 1
 end
def uptoSmall : (H : Type) → List (DataW H) → Bool := fun _ ds => decide (uptoBulkAll ds ≤ 1048576)
def OpenSpec.upto (s : _root_.Go.ChangeSpec) : _root_.Go.OpenSpec := { _root_.Go.OpenSpec.ofChange s with cond := some uptoSmall }

/-- 'laws.FnExactBestNames', WHERE WHAT IT READS IS OF BULK AT MOST 1048576: true; the input reads as it did. -/
def fnExactBestNamesUptoRow : OpenClaim := { program := "ytcnpbaldnhfebaa", sum := "dd18b5eb6e8c50c2f56ac22cb8ed47be86b731f9011961c809a4ba425b54e59a", func := "loop.example/g00912/laws.FnExactBestNames", spec := "fnExactBestNames", unfollowed := true, recurses := true, apart := false, narrowed := true }
def FnExactBestNamesUptoSaid : Prop := fnExactBestNamesUptoRow.holds Try.pinned (OpenSpec.upto fnExactBestNamesSpec)

/-- 'laws.FnExactBestSingles', WHERE WHAT IT READS IS OF BULK AT MOST 1048576: true; the input reads as it did. -/
def fnExactBestSinglesUptoRow : OpenClaim := { program := "ytcnpbaldnhfebaa", sum := "dd18b5eb6e8c50c2f56ac22cb8ed47be86b731f9011961c809a4ba425b54e59a", func := "loop.example/g00912/laws.FnExactBestSingles", spec := "fnExactBestSingles", unfollowed := true, recurses := true, apart := false, narrowed := true }
def FnExactBestSinglesUptoSaid : Prop := fnExactBestSinglesUptoRow.holds Try.pinned (OpenSpec.upto fnExactBestSinglesSpec)

/-- 'laws.FnExactSinglesBase', WHERE WHAT IT READS IS OF BULK AT MOST 1048576: true; the input reads as it did. -/
def fnExactSinglesBaseUptoRow : OpenClaim := { program := "ytcnpbaldnhfebaa", sum := "dd18b5eb6e8c50c2f56ac22cb8ed47be86b731f9011961c809a4ba425b54e59a", func := "loop.example/g00912/laws.FnExactSinglesBase", spec := "fnExactSinglesBase", unfollowed := true, recurses := true, apart := false, narrowed := true }
def FnExactSinglesBaseUptoSaid : Prop := fnExactSinglesBaseUptoRow.holds Try.pinned (OpenSpec.upto fnExactSinglesBaseSpec)

end Rows
end Go.Proofs.Ytcnpbaldnhfebaa
