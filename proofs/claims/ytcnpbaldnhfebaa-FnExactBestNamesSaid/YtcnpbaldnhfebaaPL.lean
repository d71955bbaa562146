/- CountSingles by the program. -/
import Derived.Test.YtcnpbaldnhfebaaPK
import Derived.Test.YtcnpbaldnhfebaaRV
namespace Go.Proofs.Ytcnpbaldnhfebaa
open Go.RowKit Go.Sort
set_option linter.unusedVariables false

/-- The row of the next choices while the program works: the rounds before h done, of the round h the first k terms. -/
def accW (ways : Nat → Nat) (s l n h k x : Nat) : Nat := sumTo (fun h' => addW ways s l n h' x) h + (if h ≤ x ∧ x - h < k then addW ways s l n h x else 0)
theorem accW_start (ways : Nat → Nat) (s l n h x : Nat) : accW ways s l n h 0 x = sumTo (fun h' => addW ways s l n h' x) h := by
  unfold accW
  rw [if_neg (by omega), Nat.add_zero]
theorem accW_end {ways : Nat → Nat} {s l n h k : Nat} (hk : min (min s l) (n - h) < k) (x : Nat) : accW ways s l n h k x = sumTo (fun h' => addW ways s l n h' x) (h + 1) := by
  unfold accW
  rw [sumTo]
  congr 1
  by_cases hx : h ≤ x ∧ x - h < k
  · rw [if_pos hx]
  · rw [if_neg hx]
    unfold addW
    rw [if_neg (by omega)]
theorem accW_step {ways : Nat → Nat} {s l n h k : Nat} (hk : k ≤ min (min s l) (n - h)) : accW ways s l n h (k + 1) (h + k) = accW ways s l n h k (h + k) + ways h * bin s k := by
  unfold accW
  rw [if_pos (by omega), if_neg (by omega), Nat.add_zero]
  congr 1
  unfold addW
  rw [show h + k - h = k by omega, if_pos (by omega)]
theorem accW_other {ways : Nat → Nat} {s l n h k x : Nat} (hx : x ≠ h + k) : accW ways s l n h (k + 1) x = accW ways s l n h k x := by
  unfold accW
  congr 1
  by_cases h1 : h ≤ x ∧ x - h < k
  · rw [if_pos h1, if_pos (by omega)]
  · rw [if_neg h1, if_neg (by omega)]
theorem accW_bd {ways : Nat → Nat} {s l n h k x : Nat} (hw : ∀ i, ways i ≤ 16777216) (hs : s ≤ 24) (hh : h ≤ 14) : accW ways s l n h k x ≤ 4222124650659840 := by
  have h1 : ∀ h', addW ways s l n h' x ≤ 281474976710656 := fun h' => Nat.le_trans (addW_le s l n h' x hw) (Nat.le_trans (Nat.mul_le_mul_left _ (Nat.pow_le_pow_right (by decide) hs)) (by decide))
  have h2 := sumTo_le (g := fun h' => addW ways s l n h' x) h (fun i _ => h1 i)
  have h3 := h1 h
  have h4 : h * 281474976710656 ≤ 14 * 281474976710656 := Nat.mul_le_mul_right _ hh
  unfold accW
  split <;> omega
theorem accW_all (d : CoD) (f n x : Nat) (hx : x ≤ n) : sumTo (fun h' => addW (cntW d f) (szE d f) (limE d f) n h' x) (n + 1) = cntW d (f + 1) x := by
  rw [conv_eq _ _ _ _ _ hx, cntW_succ]
theorem szA_szE (d : CoD) (f : Nat) : szA d d.1.length f = (szE d f : Nat) := rfl
theorem OwnI.made1 (w : World) {lo : Nat} (n : Nat) (hn : n ≤ 1048576) (hlo : lo ≤ w.heap.size) : OwnI 3 (w.alloc (.cells ((madeCells #[.int .i64 0] (n + 1)).setIfInBounds 0 (.int .i64 1)) 3)) lo (some ⟨w.heap.size, 0, none⟩) (n + 1) (n + 1) (rowN (fun x => if x = 0 then 1 else 0) n) := by
  have h := World.ownsRow_lit (e := 3) (size := 1) (base := lo) w ((madeCells #[.int .i64 0] (n + 1)).setIfInBounds 0 (.int .i64 1)) (n + 1) hlo (by unfold maxLen; omega) (by simp [madeCells])
  rw [Array.toList_setIfInBounds, made_zeroR] at h
  have e : rowN (fun x => if x = 0 then 1 else 0) n = (List.replicate (n + 1) (0 : Int)).set 0 1 := by
    rw [rowN_set (g := fun _ => 0) (Nat.zero_le n) (fun x _ hx => by simp [hx]), rowN_zero]
    simp
  show Own _ _ _ _ _ _ _
  rw [e, List.map_set]
  exact h
theorem min3 (X Y Z : Int) : (if Z < (if Y < X then Y else X) then Z else (if Y < X then Y else X)) = min (min X Y) Z := by
  split <;> split <;> omega

end Go.Proofs.Ytcnpbaldnhfebaa
