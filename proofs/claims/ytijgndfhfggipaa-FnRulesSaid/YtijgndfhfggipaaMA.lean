/- Valid marks: what the two ways to ask for them come to. -/
import Derived.Test.YtijgndfhfggipaaKM
namespace Go.Proofs.Ytijgndfhfggipaa
open Go.RowKit Go.Sort
set_option linter.unusedVariables false

abbrev MD := List (List Int) × List (List Int)
def compMark (x : Int) : Bool := inB 0 1000 x && (x.tmod 25 == 0)
def judges (d : MD) : Nat := (d.2.getD 0 []).length
def okRow (j : Nat) (row : List Int) : Bool := decide (row.length = j) && row.all (inB (-5) 5)
def okComp (j : Nat) (row : List Int) : Bool := decide (row.length = j) && row.all compMark
/-- Valid marks. -/
def marksB (d : MD) : Bool := decide (d.1.length ≤ 14) && decide (d.2.length = 3) && inB 3 9 (judges d) && d.1.all (okRow (judges d)) && d.2.all (okComp (judges d))

end Go.Proofs.Ytijgndfhfggipaa
