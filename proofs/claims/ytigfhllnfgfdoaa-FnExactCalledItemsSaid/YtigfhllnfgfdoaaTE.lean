import Derived.Test.YtigfhllnfgfdoaaTD
namespace Go.Proofs.Ytigfhllnfgfdoaa
open Go.RowKit
set_option linter.unusedVariables false

theorem gcdI_pos (a b : Int) (hb : 0 < b) : 0 < gcdI a b := Nat.gcd_pos_of_pos_right _ (by omega)
theorem gcdI_le (a b : Int) (hb : 0 < b) : (gcdI a b : Int) ≤ b := by
  have : gcdI a b ≤ b.natAbs := Nat.le_of_dvd (by omega) (Nat.gcd_dvd_right _ _)
  omega
theorem lowF_eq (a b : Int) : lowF a b = (a.tdiv (gcdI a b), b / (gcdI a b)) := rfl

/-! ### Quotients rounded -/
theorem floor_fix (a b : Int) (hb : 0 < b) : (if a.tmod b < 0 then a.tdiv b - 1 else a.tdiv b) = a / b := by
  have h1 : a.tdiv b * b + a.tmod b = a := by rw [Int.mul_comm]; exact Int.mul_tdiv_add_tmod a b
  have h2 := Int.tmod_lt_of_pos a hb
  have h3 : -b < a.tmod b := by
    rcases Int.le_total 0 a with h | h
    · have := Int.tmod_nonneg b h; omega
    · have := Int.tmod_lt_of_pos (-a) hb
      rw [Int.neg_tmod] at this
      omega
  split
  · symm
    apply Int.le_antisymm
    · have : a / b < a.tdiv b := Int.ediv_lt_of_lt_mul hb (by omega)
      omega
    · apply Int.le_ediv_of_mul_le hb
      rw [Int.sub_mul]
      omega
  · symm
    apply Int.le_antisymm
    · have : a / b < a.tdiv b + 1 := Int.ediv_lt_of_lt_mul hb (by rw [Int.add_mul]; omega)
      omega
    · apply Int.le_ediv_of_mul_le hb
      omega
theorem tdiv_bd (a b : Int) (hb : 0 < b) (ha : -4611686018427387904 ≤ a) (ha' : a ≤ 4611686018427387904) : -4611686018427387904 ≤ a.tdiv b ∧ a.tdiv b ≤ 4611686018427387904 := by
  have h := Int.natAbs_tdiv_le_natAbs a b
  omega
theorem ediv_bd (a b : Int) (hb : 0 < b) (ha : -2305843009213693952 ≤ a) (ha' : a ≤ 2305843009213693952) : -2305843009213693953 ≤ a / b ∧ a / b ≤ 2305843009213693953 := by
  have h := floor_fix a b hb
  have h2 := Int.natAbs_tdiv_le_natAbs a b
  split at h <;> omega

def isMode (m : Int) : Bool := inB (-1) 1 m
end Go.Proofs.Ytigfhllnfgfdoaa
