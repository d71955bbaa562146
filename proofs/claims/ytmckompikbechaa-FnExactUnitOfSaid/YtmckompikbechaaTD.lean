import Derived.Test.YtmckompikbechaaTB
import Derived.IntWalk
namespace Go.Proofs.Ytmckompikbechaa
open Go.RowKit

theorem drop_rev (l : List Int) (m : Nat) (h : m < l.length) : (l.drop (m + 1)).reverse ++ [l.getD m 0] = (l.drop m).reverse := by
  rw [List.drop_eq_getElem_cons h, List.reverse_cons]
  simp [h]

/-! ### Fractions -/
theorem gcd_step (X Y : Nat) : Nat.gcd Y (X % Y) = Nat.gcd X Y := by rw [Nat.gcd_comm X Y, Nat.gcd_rec Y X, Nat.gcd_comm]

theorem tmod_nat (X Y : Nat) : (X : Int).tmod (Y : Int) = ((X % Y : Nat) : Int) := rfl

def mostF (a b : Int) : Int := if b < a then a else b
theorem s.l1Most_any (a b : Int) (w : World) : Calls Try.prog 139 #[.int .i64 a, .int .i64 b] w fun e w' => e = .returned (.int .i64 (max a b)) ∧ w = w' := by
  go_enter Try.func139, Try.ntmps139
  go_wp2
  all_goals go_ret
  · exact ⟨ret_int (by omega), rfl⟩
  · exact ⟨ret_int (by omega), rfl⟩
end Go.Proofs.Ytmckompikbechaa
