/- Valid marks: the reference's walk. -/
import Derived.Test.YtijgndfhfggipaaMB
namespace Go.Proofs.Ytijgndfhfggipaa
open Go.RowKit Go.Sort
set_option linter.unusedVariables false

def mkListF (zs : List Int) (j : Int) (comp : Bool) : Bool := decide ((zs.length : Int) = j) && (if comp then zs.all compMark else zs.all (inB (-5) 5))
def t25 (x : Int) : Bool := x.tmod 25 == 0
theorem comp_split (zs : List Int) : zs.all compMark = (zs.all t25 && zs.all (inB 0 1000)) := by
  induction zs with
  | nil => rfl
  | cons z t ih =>
    simp only [List.all_cons, ih, compMark, t25]
    cases inB 0 1000 z <;> cases (z.tmod 25 == 0) <;> cases t.all t25 <;> cases t.all (inB 0 1000) <;> rfl

theorem mkListF_row (x : List Int) (J : Nat) : mkListF x (J : Int) false = okRow J x := by
  unfold mkListF okRow
  by_cases h : x.length = J
  · simp [h]
  · have : ¬ ((x.length : Int) = (J : Int)) := by omega
    simp [h, this]
theorem mkListF_comp (x : List Int) (J : Nat) : mkListF x (J : Int) true = okComp J x := by
  unfold mkListF okComp
  by_cases h : x.length = J
  · simp [h]
  · have : ¬ ((x.length : Int) = (J : Int)) := by omega
    simp [h, this]

end Go.Proofs.Ytijgndfhfggipaa
