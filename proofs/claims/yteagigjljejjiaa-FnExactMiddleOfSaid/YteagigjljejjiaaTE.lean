import Derived.Test.YteagigjljejjiaaTD
namespace Go.Proofs.Yteagigjljejjiaa
open Go.RowKit
set_option linter.unusedVariables false

theorem gcdI_pos (a b : Int) (hb : 0 < b) : 0 < gcdI a b := Nat.gcd_pos_of_pos_right _ (by omega)
theorem gcdI_le (a b : Int) (hb : 0 < b) : (gcdI a b : Int) ≤ b := by
  have : gcdI a b ≤ b.natAbs := Nat.le_of_dvd (by omega) (Nat.gcd_dvd_right _ _)
  omega
theorem lowF_eq (a b : Int) : lowF a b = (a.tdiv (gcdI a b), b / (gcdI a b)) := rfl

set_option maxHeartbeats 400000 in
theorem i.lowestTerms_any (a b : Int) (w : World) (ha : -4611686018427387904 ≤ a) (ha' : a ≤ 4611686018427387904) (hb : 0 < b) (hb' : b ≤ 4611686018427387904) :
    Calls Try.prog 57 #[.int .i64 a, .int .i64 b] w fun e w' => e = .returned (.tuple #[.int .i64 (lowF a b).1, .int .i64 (lowF a b).2]) ∧ ∃ m, w' = w.drewN m := by
  have hg1 := gcdI_pos a b hb
  have hg2 := gcdI_le a b hb
  rw [lowF_eq]
  generalize hG : gcdI a b = G at *
  have HG := hide hG
  clear hG
  have hne : ¬ (G : Int) = 0 := by omega
  have hm1 : ¬ (G : Int) = -1 := by omega
  go_enter Try.func57, Try.ntmps57
  go_wp2_with fail
  refine (i.gcdOf_any a b _ ha ha' hb hb').mono ?_
  rintro e w1 ⟨rfl, m, rfl⟩
  rw [HG.out]
  go_wp2
  go_quiet (fail)
  go_wp2
  go_ret2
  exact ⟨rfl, _, World.drewN_drewN _ _ _⟩

set_option maxHeartbeats 400000 in
theorem s.poLowest_any (a b : Int) (w : World) (ha : -4611686018427387904 ≤ a) (ha' : a ≤ 4611686018427387904) (hb : 0 < b) (hb' : b ≤ 4611686018427387904) :
    Calls Try.prog 56 #[.int .i64 a, .int .i64 b] w fun e w' => e = .returned (.tuple #[.int .i64 (lowF a b).1, .int .i64 (lowF a b).2]) ∧ ∃ m, w' = w.drewN m := by
  have hg1 := gcdI_pos a b hb
  have hg2 := gcdI_le a b hb
  rw [lowF_eq]
  have hG : gcdI a b = Nat.gcd a.natAbs b.natAbs := rfl
  generalize gcdI a b = G at *
  have HG := hide hG
  clear hG
  have hne : ¬ (G : Int) = 0 := by omega
  have hm1 : ¬ (G : Int) = -1 := by omega
  have HX : Hid (max a (-a) = (a.natAbs : Int)) := by show _ = _; omega
  have HY : Hid (b = (b.natAbs : Int)) := by show _ = _; omega
  go_enter Try.func56, Try.ntmps56
  go_wp2_with fail
  refine (s.l1Abs_any a _ ha ha').mono ?_
  rintro e w1 ⟨rfl, rfl⟩
  rw [HX.out]
  have hX1 : a.natAbs ≤ 4611686018427387904 := by omega
  have hY1 : b.natAbs ≤ 4611686018427387904 := by omega
  generalize a.natAbs = X at *
  generalize hYn : b.natAbs = Y at *
  clear hYn
  go_wp2
  go_loop [6, 7, 8] (fun p q _ => ∃ (x y : Nat), p = .int .i64 x ∧ q = .int .i64 y ∧ Nat.gcd x y = G ∧ x ≤ 4611686018427387904 ∧ y ≤ 4611686018427387904) (fun _ q _ => (intOf q).toNat)
  case atStart => exact ⟨X, Y, rfl, by rw [← HY.out], HG.out.symm, hX1, hY1⟩
  case round =>
    obtain ⟨x, y, rfl, rfl, hxy, hx, hy⟩ := hrel
    have HG2 := hide hxy
    clear hxy
    by_cases h0 : y = 0
    · subst h0
      obtain rfl : x = G := by have := HG2.out; simpa using this
      go_wp2
      go_quiet (fail)
      go_wp2
      go_ret2
      exact ⟨rfl, _, rfl⟩
    · have hne : ((y : Int) != 0) = true := by simp; omega
      have hne' : ¬ (y : Int) = 0 := by omega
      have hlt : x % y < y := Nat.mod_lt _ (by omega)
      have hpos : (0 : Int) < y := by omega
      go_wp2
      go_round
      case rel => exact ⟨y, x % y, rfl, rfl, by rw [gcd_step]; exact HG2.out, hy, by omega⟩
      case measure => simp [intOf]; omega

/-! ### Quotients rounded -/
theorem floor_fix (a b : Int) (hb : 0 < b) : (if a.tmod b < 0 then a.tdiv b - 1 else a.tdiv b) = a / b := by
  have h1 : a.tdiv b * b + a.tmod b = a := by rw [Int.mul_comm]; exact Int.mul_tdiv_add_tmod a b
  have h2 := Int.tmod_lt_of_pos a hb
  have h3 : -b < a.tmod b := by
    rcases Int.le_total 0 a with h | h
    · have := Int.tmod_nonneg b h; omega
    · have := Int.tmod_lt_of_pos (-a) hb
      rw [Int.neg_tmod] at this
      omega
  split
  · symm
    apply Int.le_antisymm
    · have : a / b < a.tdiv b := Int.ediv_lt_of_lt_mul hb (by omega)
      omega
    · apply Int.le_ediv_of_mul_le hb
      rw [Int.sub_mul]
      omega
  · symm
    apply Int.le_antisymm
    · have : a / b < a.tdiv b + 1 := Int.ediv_lt_of_lt_mul hb (by rw [Int.add_mul]; omega)
      omega
    · apply Int.le_ediv_of_mul_le hb
      omega
theorem tdiv_bd (a b : Int) (hb : 0 < b) (ha : -4611686018427387904 ≤ a) (ha' : a ≤ 4611686018427387904) : -4611686018427387904 ≤ a.tdiv b ∧ a.tdiv b ≤ 4611686018427387904 := by
  have h := Int.natAbs_tdiv_le_natAbs a b
  omega
theorem ediv_bd (a b : Int) (hb : 0 < b) (ha : -2305843009213693952 ≤ a) (ha' : a ≤ 2305843009213693952) : -2305843009213693953 ≤ a / b ∧ a / b ≤ 2305843009213693953 := by
  have h := floor_fix a b hb
  have h2 := Int.natAbs_tdiv_le_natAbs a b
  split at h <;> omega

theorem i.floorDiv_any (a b : Int) (w : World) (ha : -4611686018427387904 ≤ a) (ha' : a ≤ 4611686018427387904) (hb : 0 < b) (hb' : b ≤ 4611686018427387904) :
    Calls Try.prog 74 #[.int .i64 a, .int .i64 b] w fun e w' => e = .returned (.int .i64 (a / b)) ∧ w = w' := by
  have hf := hide (floor_fix a b hb)
  obtain ⟨hd1, hd2⟩ := tdiv_bd a b hb ha ha'
  have hne : ¬ b = 0 := by omega
  by_cases hs : a.tmod b < 0
  · have hf2 : Hid (a.tdiv b - 1 = a / b) := by have := hf.out; rwa [if_pos hs] at this
    clear hf
    generalize a / b = q at *
    go_enter Try.func74, Try.ntmps74
    go_wp2
    go_ret
    exact ⟨ret_int hf2.out, rfl⟩
  · have hf2 : Hid (a.tdiv b = a / b) := by have := hf.out; rwa [if_neg hs] at this
    clear hf
    generalize a / b = q at *
    go_enter Try.func74, Try.ntmps74
    go_wp2
    go_ret
    exact ⟨ret_int hf2.out, rfl⟩

theorem s.poDown_any (a b : Int) (w : World) (ha : -4611686018427387904 ≤ a) (ha' : a ≤ 4611686018427387904) (hb : 0 < b) (hb' : b ≤ 4611686018427387904) :
    Calls Try.prog 72 #[.int .i64 a, .int .i64 b] w fun e w' => e = .returned (.int .i64 (a / b)) ∧ w = w' := by
  have hf := hide (floor_fix a b hb)
  obtain ⟨hd1, hd2⟩ := tdiv_bd a b hb ha ha'
  have hne : ¬ b = 0 := by omega
  by_cases hs : a.tmod b < 0
  · have hf2 : Hid (a.tdiv b - 1 = a / b) := by have := hf.out; rwa [if_pos hs] at this
    clear hf
    generalize a / b = q at *
    go_enter Try.func72, Try.ntmps72
    go_wp2
    go_ret
    exact ⟨ret_int hf2.out, rfl⟩
  · have hf2 : Hid (a.tdiv b = a / b) := by have := hf.out; rwa [if_neg hs] at this
    clear hf
    generalize a / b = q at *
    go_enter Try.func72, Try.ntmps72
    go_wp2
    go_ret
    exact ⟨ret_int hf2.out, rfl⟩

theorem i.roundDiv_any (a b : Int) (w : World) (ha : -1152921504606846976 ≤ a) (ha' : a ≤ 1152921504606846976) (hb : 0 < b) (hb' : b ≤ 1152921504606846976) :
    Calls Try.prog 75 #[.int .i64 a, .int .i64 b] w fun e w' => e = .returned (.int .i64 ((2 * a + b) / (2 * b))) ∧ w = w' := by
  go_enter Try.func75, Try.ntmps75
  go_wp2_with (go_at_call 74; refine (i.floorDiv_any _ _ _ (by omega) (by omega) (by omega) (by omega)).mono ?_; rintro e w1 ⟨rfl, rfl⟩)
  go_ret
  exact ⟨rfl, rfl⟩

theorem s.poRound_any (a b : Int) (w : World) (ha : -1152921504606846976 ≤ a) (ha' : a ≤ 1152921504606846976) (hb : 0 < b) (hb' : b ≤ 1152921504606846976) :
    Calls Try.prog 73 #[.int .i64 a, .int .i64 b] w fun e w' => e = .returned (.int .i64 ((2 * a + b) / (2 * b))) ∧ w = w' := by
  go_enter Try.func73, Try.ntmps73
  go_wp2_with (go_at_call 72; refine (s.poDown_any _ _ _ (by omega) (by omega) (by omega) (by omega)).mono ?_; rintro e w1 ⟨rfl, rfl⟩)
  go_ret
  exact ⟨rfl, rfl⟩

def isMode (m : Int) : Bool := inB (-1) 1 m
theorem i.isMode_any (m : Int) (w : World) : Calls Try.prog 60 #[.int .i64 m] w fun e w' => e = .returned (.bool (inB (-1) 1 m)) ∧ w = w' := by
  go_enter Try.func60, Try.ntmps60
  go_wp2_with (go_at_call 41; refine (i.within_any _ _ _ _).mono ?_; rintro e w1 ⟨rfl, rfl⟩)
  go_ret
  exact ⟨rfl, rfl⟩

theorem s.poIsMode_any (m : Int) (w : World) : Calls Try.prog 58 #[.int .i64 m] w fun e w' => e = .returned (.bool (inB (-1) 1 m)) ∧ w = w' := by
  go_enter Try.func58, Try.ntmps58
  go_wp2_with (go_at_call 44; refine (s.l1In_any _ _ _ _).mono ?_; rintro e w1 ⟨rfl, rfl⟩)
  go_ret
  exact ⟨rfl, rfl⟩

theorem i.roundPart_any (a b m : Int) (w : World) (ha : -1152921504606846976 ≤ a) (ha' : a ≤ 1152921504606846976) (hb : 0 < b) (hb' : b ≤ 1152921504606846976) (hm : inB (-1) 1 m = true) :
    Calls Try.prog 61 #[.int .i64 a, .int .i64 b, .int .i64 m] w fun e w' => e = .returned (.int .i64 (modeF a b m)) ∧ w = w' := by
  have hm3 : m = -1 ∨ m = 0 ∨ m = 1 := by simp [inB] at hm; omega
  clear hm
  obtain ⟨q1, q2⟩ := ediv_bd (-a) b hb (by omega) (by omega)
  have HQ : Hid (modeF a b m = if m = -1 then a / b else if m = 0 then (2 * a + b) / (2 * b) else -((-a) / b)) := rfl
  rcases hm3 with rfl | rfl | rfl
  all_goals
    go_enter Try.func61, Try.ntmps61
    go_wp2_with (first | (go_at_call 74; refine (i.floorDiv_any _ _ _ (by omega) (by omega) (by omega) (by omega)).mono ?_; rintro e w1 ⟨rfl, rfl⟩) | (go_at_call 75; refine (i.roundDiv_any _ _ _ (by omega) (by omega) (by omega) (by omega)).mono ?_; rintro e w1 ⟨rfl, rfl⟩))
    go_ret
    exact ⟨ret_int (by rw [HQ.out]; rfl), rfl⟩

theorem s.poMode_any (a b m : Int) (w : World) (ha : -1152921504606846976 ≤ a) (ha' : a ≤ 1152921504606846976) (hb : 0 < b) (hb' : b ≤ 1152921504606846976) (hm : inB (-1) 1 m = true) :
    Calls Try.prog 59 #[.int .i64 a, .int .i64 b, .int .i64 m] w fun e w' => e = .returned (.int .i64 (modeF a b m)) ∧ w = w' := by
  have hm3 : m = -1 ∨ m = 0 ∨ m = 1 := by simp [inB] at hm; omega
  clear hm
  obtain ⟨q1, q2⟩ := ediv_bd (-a) b hb (by omega) (by omega)
  have HQ : Hid (modeF a b m = if m = -1 then a / b else if m = 0 then (2 * a + b) / (2 * b) else -((-a) / b)) := rfl
  rcases hm3 with rfl | rfl | rfl
  all_goals
    go_enter Try.func59, Try.ntmps59
    go_wp2_with (first | (go_at_call 72; refine (s.poDown_any _ _ _ (by omega) (by omega) (by omega) (by omega)).mono ?_; rintro e w1 ⟨rfl, rfl⟩) | (go_at_call 73; refine (s.poRound_any _ _ _ (by omega) (by omega) (by omega) (by omega)).mono ?_; rintro e w1 ⟨rfl, rfl⟩))
    go_ret
    exact ⟨ret_int (by rw [HQ.out]; rfl), rfl⟩
end Go.Proofs.Yteagigjljejjiaa
