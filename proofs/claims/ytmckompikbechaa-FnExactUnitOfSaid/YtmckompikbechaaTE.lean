import Derived.Test.YtmckompikbechaaTD
namespace Go.Proofs.Ytmckompikbechaa
open Go.RowKit
set_option linter.unusedVariables false

theorem gcdI_pos (a b : Int) (hb : 0 < b) : 0 < gcdI a b := Nat.gcd_pos_of_pos_right _ (by omega)
theorem gcdI_le (a b : Int) (hb : 0 < b) : (gcdI a b : Int) ≤ b := by
  have : gcdI a b ≤ b.natAbs := Nat.le_of_dvd (by omega) (Nat.gcd_dvd_right _ _)
  omega
theorem lowF_eq (a b : Int) : lowF a b = (a.tdiv (gcdI a b), b / (gcdI a b)) := rfl

/-! ### Quotients rounded -/
theorem floor_fix (a b : Int) (hb : 0 < b) : (if a.tmod b < 0 then a.tdiv b - 1 else a.tdiv b) = a / b := by
  have h1 : a.tdiv b * b + a.tmod b = a := by rw [Int.mul_comm]; exact Int.mul_tdiv_add_tmod a b
  have h2 := Int.tmod_lt_of_pos a hb
  have h3 : -b < a.tmod b := by
    rcases Int.le_total 0 a with h | h
    · have := Int.tmod_nonneg b h; omega
    · have := Int.tmod_lt_of_pos (-a) hb
      rw [Int.neg_tmod] at this
      omega
  split
  · symm
    apply Int.le_antisymm
    · have : a / b < a.tdiv b := Int.ediv_lt_of_lt_mul hb (by omega)
      omega
    · apply Int.le_ediv_of_mul_le hb
      rw [Int.sub_mul]
      omega
  · symm
    apply Int.le_antisymm
    · have : a / b < a.tdiv b + 1 := Int.ediv_lt_of_lt_mul hb (by rw [Int.add_mul]; omega)
      omega
    · apply Int.le_ediv_of_mul_le hb
      omega
theorem tdiv_bd (a b : Int) (hb : 0 < b) (ha : -4611686018427387904 ≤ a) (ha' : a ≤ 4611686018427387904) : -4611686018427387904 ≤ a.tdiv b ∧ a.tdiv b ≤ 4611686018427387904 := by
  have h := Int.natAbs_tdiv_le_natAbs a b
  omega
theorem ediv_bd (a b : Int) (hb : 0 < b) (ha : -2305843009213693952 ≤ a) (ha' : a ≤ 2305843009213693952) : -2305843009213693953 ≤ a / b ∧ a / b ≤ 2305843009213693953 := by
  have h := floor_fix a b hb
  have h2 := Int.natAbs_tdiv_le_natAbs a b
  split at h <;> omega

theorem i.floorDiv_any (a b : Int) (w : World) (ha : -4611686018427387904 ≤ a) (ha' : a ≤ 4611686018427387904) (hb : 0 < b) (hb' : b ≤ 4611686018427387904) :
    Calls Try.prog 194 #[.int .i64 a, .int .i64 b] w fun e w' => e = .returned (.int .i64 (a / b)) ∧ w = w' := by
  have hf := hide (floor_fix a b hb)
  obtain ⟨hd1, hd2⟩ := tdiv_bd a b hb ha ha'
  have hne : ¬ b = 0 := by omega
  by_cases hs : a.tmod b < 0
  · have hf2 : Hid (a.tdiv b - 1 = a / b) := by have := hf.out; rwa [if_pos hs] at this
    clear hf
    generalize a / b = q at *
    go_enter Try.func194, Try.ntmps194
    go_wp2
    go_ret
    exact ⟨ret_int hf2.out, rfl⟩
  · have hf2 : Hid (a.tdiv b = a / b) := by have := hf.out; rwa [if_neg hs] at this
    clear hf
    generalize a / b = q at *
    go_enter Try.func194, Try.ntmps194
    go_wp2
    go_ret
    exact ⟨ret_int hf2.out, rfl⟩

theorem s.poDown_any (a b : Int) (w : World) (ha : -4611686018427387904 ≤ a) (ha' : a ≤ 4611686018427387904) (hb : 0 < b) (hb' : b ≤ 4611686018427387904) :
    Calls Try.prog 193 #[.int .i64 a, .int .i64 b] w fun e w' => e = .returned (.int .i64 (a / b)) ∧ w = w' := by
  have hf := hide (floor_fix a b hb)
  obtain ⟨hd1, hd2⟩ := tdiv_bd a b hb ha ha'
  have hne : ¬ b = 0 := by omega
  by_cases hs : a.tmod b < 0
  · have hf2 : Hid (a.tdiv b - 1 = a / b) := by have := hf.out; rwa [if_pos hs] at this
    clear hf
    generalize a / b = q at *
    go_enter Try.func193, Try.ntmps193
    go_wp2
    go_ret
    exact ⟨ret_int hf2.out, rfl⟩
  · have hf2 : Hid (a.tdiv b = a / b) := by have := hf.out; rwa [if_neg hs] at this
    clear hf
    generalize a / b = q at *
    go_enter Try.func193, Try.ntmps193
    go_wp2
    go_ret
    exact ⟨ret_int hf2.out, rfl⟩

theorem i.roundDiv_any (a b : Int) (w : World) (ha : -1152921504606846976 ≤ a) (ha' : a ≤ 1152921504606846976) (hb : 0 < b) (hb' : b ≤ 1152921504606846976) :
    Calls Try.prog 188 #[.int .i64 a, .int .i64 b] w fun e w' => e = .returned (.int .i64 ((2 * a + b) / (2 * b))) ∧ w = w' := by
  go_enter Try.func188, Try.ntmps188
  go_wp2_with (go_at_call 194; refine (i.floorDiv_any _ _ _ (by omega) (by omega) (by omega) (by omega)).mono ?_; rintro e w1 ⟨rfl, rfl⟩)
  go_ret
  exact ⟨rfl, rfl⟩

theorem s.poRound_any (a b : Int) (w : World) (ha : -1152921504606846976 ≤ a) (ha' : a ≤ 1152921504606846976) (hb : 0 < b) (hb' : b ≤ 1152921504606846976) :
    Calls Try.prog 187 #[.int .i64 a, .int .i64 b] w fun e w' => e = .returned (.int .i64 ((2 * a + b) / (2 * b))) ∧ w = w' := by
  go_enter Try.func187, Try.ntmps187
  go_wp2_with (go_at_call 193; refine (s.poDown_any _ _ _ (by omega) (by omega) (by omega) (by omega)).mono ?_; rintro e w1 ⟨rfl, rfl⟩)
  go_ret
  exact ⟨rfl, rfl⟩

def isMode (m : Int) : Bool := inB (-1) 1 m
end Go.Proofs.Ytmckompikbechaa
