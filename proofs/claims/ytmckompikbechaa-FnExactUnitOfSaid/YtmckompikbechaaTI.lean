import Derived.Test.YtmckompikbechaaTH
namespace Go.Proofs.Ytmckompikbechaa
open Go.RowKit
set_option linter.unusedVariables false

theorem quiet_of_l {P : Program} {f : FuncId} {args : Array Value} {w : World} {n : Nat} {v : Value}
    (h : Calls P f args (w.drewN n) fun e w' => e = .returned v ∧ w.drewN n = w') : Calls P f args (w.drewN n) fun e w'' => e = .returned v ∧ ∃ m, w'' = w.drewN m :=
  h.mono fun _ _ ⟨he, hm⟩ => ⟨he, n, hm.symm⟩

/-- The result of IsTrimmed. -/
def isTrimmedF (zs : List Int) (k : Int) : Bool × Bool := if hasMark zs k then (decide (5 ≤ zs.length) && (zs.getD k.toNat 0 == maxL zs || zs.getD k.toNat 0 == minL zs), true) else (false, false)

theorem getD_rev_zero (l : List Int) (h : 0 < l.length) : l.reverse.getD 0 0 = l.getD (l.length - 1) 0 := by
  simp [List.getElem?_reverse h]
theorem getD_rev_last (l : List Int) (h : 0 < l.length) : l.reverse.getD (l.length - 1) 0 = l.getD 0 0 := by
  rw [List.getD_eq_getElem?_getD, List.getElem?_reverse (by omega)]
  simp

end Go.Proofs.Ytmckompikbechaa
