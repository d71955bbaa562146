/- Choices out of families counted: the plain law. -/
import Derived.Test.YtcnpbaldnhfebaaPH
namespace Go.Proofs.Ytcnpbaldnhfebaa
open Go.RowKit Go.Sort
set_option linter.unusedVariables false

/-- In how many ways k of n things can be chosen. -/
def bin : Nat → Nat → Nat
  | _, 0 => 1
  | 0, _ + 1 => 0
  | n + 1, k + 1 => bin n k + bin n (k + 1)
theorem bin_zero (n : Nat) : bin n 0 = 1 := by cases n <;> rfl
theorem bin_nil (k : Nat) : bin 0 (k + 1) = 0 := rfl
theorem bin_succ (n k : Nat) : bin (n + 1) (k + 1) = bin n k + bin n (k + 1) := rfl
theorem bin_gt : ∀ (n k : Nat), n < k → bin n k = 0
  | n, 0, h => absurd h (by omega)
  | 0, k + 1, _ => rfl
  | n + 1, k + 1, h => by rw [bin_succ, bin_gt n k (by omega), bin_gt n (k + 1) (by omega)]
theorem bin_le : ∀ (n k : Nat), bin n k ≤ 2 ^ n
  | n, 0 => by rw [bin_zero]; exact Nat.one_le_two_pow
  | 0, k + 1 => by rw [bin_nil]; exact Nat.zero_le _
  | n + 1, k + 1 => by have := bin_le n k; have := bin_le n (k + 1); rw [bin_succ, Nat.pow_succ]; omega
theorem bin_step : ∀ (n k m : Nat), n = k + m → bin n (k + 1) * (k + 1) = bin n k * m
  | 0, k, m, h => by
    have hk : k = 0 := by omega
    have hm : m = 0 := by omega
    subst hk hm
    rfl
  | n + 1, 0, m, h => by
    have hm : m = n + 1 := by omega
    subst hm
    have h1 := bin_step n 0 n (by omega)
    rw [bin_zero] at h1 ⊢
    rw [bin_succ, bin_zero]
    simp at h1 ⊢
    omega
  | n + 1, k + 1, m, h => by
    have h1 := bin_step n k m (by omega)
    rw [bin_succ n (k + 1), bin_succ n k]
    cases m with
    | zero =>
      have e : n = k := by omega
      subst e
      rw [bin_gt n (n + 1) (by omega), bin_gt n (n + 1 + 1) (by omega)]
      simp
    | succ m =>
      have h2 := bin_step n (k + 1) m (by omega)
      rw [Nat.add_mul, Nat.add_mul, Nat.mul_succ (bin n (k + 1)) (k + 1), h1, h2, Nat.mul_succ (bin n (k + 1)) m]
      omega
/-- The quotient that the program takes is whole. -/
theorem bin_quo {n k : Nat} (h : k < n) : (bin n k : Int) * ((n : Int) - k) / ((k : Int) + 1) = (bin n (k + 1) : Nat) := by
  have h1 := bin_step n k (n - k) (by omega)
  have h2 : (bin n k : Int) * ((n : Int) - k) = (bin n (k + 1) : Nat) * ((k : Int) + 1) := by
    have h3 : ((bin n (k + 1) * (k + 1) : Nat) : Int) = ((bin n k * (n - k) : Nat) : Int) := by rw [h1]
    rw [Int.natCast_mul, Int.natCast_mul] at h3
    rw [show ((n - k : Nat) : Int) = (n : Int) - k by omega] at h3
    rw [← h3]
    rfl
  rw [h2, Int.mul_ediv_cancel _ (by omega)]
def sumTo (g : Nat → Nat) : Nat → Nat
  | 0 => 0
  | m + 1 => sumTo g m + g m
theorem sumTo_le {g : Nat → Nat} {B : Nat} (m : Nat) (h : ∀ i, i < m → g i ≤ B) : sumTo g m ≤ m * B := by
  induction m with
  | zero => simp [sumTo]
  | succ m ih =>
    have h1 := ih (fun i hi => h i (by omega))
    have h2 := h m (by omega)
    rw [sumTo, Nat.add_mul]
    omega
theorem sumTo_mono {g g' : Nat → Nat} (m : Nat) (h : ∀ i, i < m → g i ≤ g' i) : sumTo g m ≤ sumTo g' m := by
  induction m with
  | zero => exact Nat.le_refl _
  | succ m ih =>
    have h1 := ih (fun i hi => h i (by omega))
    have h2 := h m (by omega)
    rw [sumTo, sumTo]
    omega
theorem sumTo_congr {g g' : Nat → Nat} (m : Nat) (h : ∀ i, i < m → g i = g' i) : sumTo g m = sumTo g' m :=
  Nat.le_antisymm (sumTo_mono m fun i hi => Nat.le_of_eq (h i hi)) (sumTo_mono m fun i hi => Nat.le_of_eq (h i hi).symm)
theorem sumTo_add (g g' : Nat → Nat) (m : Nat) : sumTo (fun i => g i + g' i) m = sumTo g m + sumTo g' m := by
  induction m with
  | zero => rfl
  | succ m ih => rw [sumTo, sumTo, sumTo, ih]; omega
theorem sumTo_mul (g : Nat → Nat) (c m : Nat) : sumTo (fun i => c * g i) m = c * sumTo g m := by
  induction m with
  | zero => simp [sumTo]
  | succ m ih => rw [sumTo, sumTo, ih, Nat.mul_add]
theorem sumTo_first (g : Nat → Nat) (m : Nat) : sumTo g (m + 1) = g 0 + sumTo (fun i => g (i + 1)) m := by
  induction m with
  | zero => simp [sumTo]
  | succ m ih => rw [sumTo, ih, sumTo]; omega
theorem sumTo_cut (g : Nat → Nat) (m m' : Nat) (hm : m ≤ m') (h : ∀ i, m ≤ i → i < m' → g i = 0) : sumTo g m' = sumTo g m := by
  induction m' with
  | zero =>
    have : m = 0 := by omega
    subst this; rfl
  | succ m' ih =>
    by_cases e : m = m' + 1
    · rw [e]
    · rw [sumTo, ih (by omega) (fun i h1 h2 => h i h1 (by omega)), h m' (by omega) (by omega)]
      rfl
theorem sumTo_rev (g : Nat → Nat) (m : Nat) : sumTo g (m + 1) = sumTo (fun i => g (m - i)) (m + 1) := by
  induction m generalizing g with
  | zero => rfl
  | succ m ih =>
    rw [sumTo_first (fun i => g (m + 1 - i)) (m + 1), sumTo]
    have h1 : sumTo (fun i => g (m + 1 - (i + 1))) (m + 1) = sumTo g (m + 1) := by
      rw [ih g]
      exact sumTo_congr _ (fun i hi => by rw [show m + 1 - (i + 1) = m - i by omega])
    rw [h1]
    simp
    omega
theorem sumTo_bin (s m : Nat) : sumTo (bin s) m ≤ 2 ^ s := by
  induction s generalizing m with
  | zero =>
    cases m with
    | zero => simp [sumTo]
    | succ m =>
      rw [sumTo_first]
      have : sumTo (fun i => bin 0 (i + 1)) m = sumTo (fun _ => 0) m := sumTo_congr _ (fun i _ => rfl)
      rw [this]
      have h2 := sumTo_le (g := fun _ => 0) (B := 0) m (fun _ _ => Nat.le_refl _)
      rw [bin_zero]
      simp at h2 ⊢
      omega
  | succ s ih =>
    cases m with
    | zero => simp [sumTo]
    | succ m =>
      rw [sumTo_first]
      have : sumTo (fun i => bin (s + 1) (i + 1)) m = sumTo (fun i => bin s i + bin s (i + 1)) m := sumTo_congr _ (fun i _ => rfl)
      rw [this, sumTo_add]
      have h1 := ih m
      have h2 := ih (m + 1)
      rw [sumTo_first] at h2
      rw [bin_zero] at h2 ⊢
      rw [Nat.pow_succ]
      omega
/-- The choices of x out of the families so far and one more: s things, l of them at most. -/
def conv (ways : Nat → Nat) (s l x : Nat) : Nat := sumTo (fun j => ways (x - j) * bin s j) (min x l + 1)
def wayN (sz lm : Nat → Nat) : Nat → Nat → Nat
  | 0, x => if x = 0 then 1 else 0
  | f + 1, x => conv (wayN sz lm f) (sz f) (lm f) x
theorem conv_le {ways : Nat → Nat} {B : Nat} (s l x m : Nat) (h : ∀ i, ways i ≤ B) : sumTo (fun j => ways (x - j) * bin s j) m ≤ B * 2 ^ s := by
  have h1 : sumTo (fun j => ways (x - j) * bin s j) m ≤ sumTo (fun j => B * bin s j) m := sumTo_mono m (fun i _ => Nat.mul_le_mul_right _ (h _))
  rw [sumTo_mul] at h1
  exact Nat.le_trans h1 (Nat.mul_le_mul_left _ (sumTo_bin s m))
theorem wayN_le (sz lm : Nat → Nat) (f x : Nat) : wayN sz lm f x ≤ 2 ^ sumTo sz f := by
  induction f generalizing x with
  | zero => unfold wayN; split <;> simp [sumTo]
  | succ f ih =>
    rw [sumTo, Nat.pow_add]
    exact conv_le _ (lm f) _ _ ih
/-- What one round of the program adds to the choices of x. -/
def addW (ways : Nat → Nat) (s l n h x : Nat) : Nat := if h ≤ x ∧ x - h ≤ min (min s l) (n - h) then ways h * bin s (x - h) else 0
theorem conv_eq (ways : Nat → Nat) (s l n x : Nat) (hx : x ≤ n) : sumTo (fun h => addW ways s l n h x) (n + 1) = conv ways s l x := by
  rw [sumTo_cut (fun h => addW ways s l n h x) (x + 1) (n + 1) (by omega) (fun i h1 h2 => by unfold addW; rw [if_neg (by omega)])]
  rw [sumTo_rev]
  unfold conv
  rw [sumTo_cut (fun j => addW ways s l n (x - j) x) (min x l + 1) (x + 1) (by omega) (fun i h1 h2 => by unfold addW; rw [if_neg (by omega)])]
  refine sumTo_congr _ (fun j hj => ?_)
  unfold addW
  rw [show x - (x - j) = j by omega]
  by_cases hs : j ≤ s
  · rw [if_pos (by omega)]
  · rw [if_neg (by omega), bin_gt s j (by omega)]
    rfl
theorem addW_le {ways : Nat → Nat} {B : Nat} (s l n h x : Nat) (hw : ∀ i, ways i ≤ B) : addW ways s l n h x ≤ B * 2 ^ s := by
  unfold addW
  split
  · exact Nat.mul_le_mul (hw _) (bin_le _ _)
  · exact Nat.zero_le _
/-- How many elements the family f has. -/
def szE (d : CoD) (f : Nat) : Nat := cntF (famE d) f (List.range d.1.length)
def cntW (d : CoD) (f x : Nat) : Nat := wayN (szE d) (limE d) f x
def countF (d : CoD) (n : Int) : Int × Bool := if codeB d && inB 1 14 n then (((cntW d 5 n.toNat : Nat) : Int), true) else (0, false)
theorem szE_sum {d : CoD} (hd : CodeOk d) : sumTo (szE d) 5 ≤ 24 := by
  have h := len_totF (famE d) (List.range d.1.length) (fun i _ => famE_lt hd i)
  rw [List.length_range] at h
  have h2 := hd.n2
  simp only [totF] at h
  simp only [sumTo, szE]
  omega
theorem szE_le {d : CoD} (hd : CodeOk d) {f : Nat} (hf : f < 5) : sumTo (szE d) f + szE d f ≤ 24 := by
  have h := szE_sum hd
  simp only [sumTo] at h
  have : f = 0 ∨ f = 1 ∨ f = 2 ∨ f = 3 ∨ f = 4 := by omega
  rcases this with rfl | rfl | rfl | rfl | rfl <;> simp only [sumTo] <;> omega
theorem cntW_le {d : CoD} (hd : CodeOk d) {f : Nat} (hf : f ≤ 5) (x : Nat) : cntW d f x ≤ 16777216 := by
  have h1 := wayN_le (szE d) (limE d) f x
  have h2 : sumTo (szE d) f ≤ 24 := by
    by_cases h5 : f = 5
    · rw [h5]; exact szE_sum hd
    · have := szE_le hd (show f < 5 by omega); omega
  have h3 : 2 ^ sumTo (szE d) f ≤ 2 ^ 24 := Nat.pow_le_pow_right (by decide) h2
  exact Nat.le_trans h1 h3
theorem bin24 {s : Nat} (h : s ≤ 24) (k : Nat) : bin s k ≤ 16777216 := Nat.le_trans (bin_le s k) (Nat.pow_le_pow_right (by decide) h)
theorem cntW_succ (d : CoD) (f x : Nat) : cntW d (f + 1) x = conv (cntW d f) (szE d f) (limE d f) x := rfl
/-- A row of n + 1 numbers. -/
def rowN (g : Nat → Nat) (n : Nat) : List Int := (List.range (n + 1)).map (fun x => ((g x : Nat) : Int))
theorem rowN_len (g : Nat → Nat) (n : Nat) : (rowN g n).length = n + 1 := by simp [rowN]
theorem rowN_at (g : Nat → Nat) {n x : Nat} (h : x ≤ n) : (rowN g n).getD x 0 = g x := by
  unfold rowN
  rw [List.getD_eq_getElem?_getD, List.getElem?_map, List.getElem?_range (by omega)]
  rfl
theorem rowN_congr {g g' : Nat → Nat} {n : Nat} (h : ∀ x, x ≤ n → g x = g' x) : rowN g n = rowN g' n := by
  unfold rowN
  refine List.map_congr_left fun x hx => ?_
  rw [List.mem_range] at hx
  rw [h x (by omega)]
theorem rowN_set {g g' : Nat → Nat} {n k : Nat} (hk : k ≤ n) (h : ∀ x, x ≤ n → x ≠ k → g' x = g x) : rowN g' n = (rowN g n).set k (g' k) := by
  apply List.ext_getElem?
  intro i
  rw [List.getElem?_set, rowN_len]
  unfold rowN
  rw [List.getElem?_map, List.getElem?_map]
  by_cases hi : i < n + 1
  · rw [List.getElem?_range hi]
    simp only [Option.map_some]
    by_cases hki : k = i
    · subst hki
      rw [if_pos rfl, if_pos hi]
    · rw [if_neg hki, h i (by omega) (Ne.symm hki)]
  · rw [List.getElem?_eq_none (l := List.range (n + 1)) (by simp; omega), if_neg (by omega)]
    rfl
theorem rowN_zero (n : Nat) : rowN (fun _ => 0) n = List.replicate (n + 1) 0 := by
  unfold rowN
  rw [List.map_const', List.length_range]
  rfl
end Go.Proofs.Ytcnpbaldnhfebaa
