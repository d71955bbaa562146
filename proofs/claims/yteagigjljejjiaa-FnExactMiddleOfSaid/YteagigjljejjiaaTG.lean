import Derived.Test.YteagigjljejjiaaTF
import Derived.Test.YteagigjljejjiaaT5
namespace Go.Proofs.Yteagigjljejjiaa
open Go.RowKit
set_option linter.unusedVariables false

theorem good_ok {zs : List Int} (h : goodMarks zs = true) : 1 ≤ zs.length ∧ zs.length ≤ 9 ∧ (∀ z ∈ zs, -1000 ≤ z ∧ z ≤ 1000) ∧ Small zs := by
  simp only [goodMarks, inB, Bool.and_eq_true, decide_eq_true_eq] at h
  obtain ⟨⟨h1, h2⟩, h3⟩ := h
  have h4 := good_small (zs := zs) (by simpa [inB] using h3)
  exact ⟨by omega, by omega, h4, fun z hz => by have := h4 z hz; omega⟩
theorem sum_bd (zs : List Int) (h : ∀ z ∈ zs, -1000 ≤ z ∧ z ≤ 1000) : -(1000 * (zs.length : Int)) ≤ zs.sum ∧ zs.sum ≤ 1000 * (zs.length : Int) := by
  induction zs with
  | nil => simp
  | cons x a ih =>
    have h1 := h x (by simp)
    have h2 := ih (fun z hz => h z (by simp [hz]))
    simp only [List.sum_cons, List.length_cons]
    omega
theorem trim_bd {zs : List Int} (h : goodMarks zs = true) : -100000 ≤ (trimF zs).1 ∧ (trimF zs).1 ≤ 100000 ∧ 1 ≤ (trimF zs).2 ∧ (trimF zs).2 ≤ 9 := by
  obtain ⟨h1, h2, h3, h4⟩ := good_ok h
  obtain ⟨s1, s2⟩ := sum_bd zs h3
  have hne : zs ≠ [] := by rintro rfl; simp at h1
  have m1 := h3 _ (maxL_spec zs hne).1
  have m2 := h3 _ (minL_spec zs hne).1
  unfold trimF
  split <;> simp only <;> omega

def trimmedSumF (zs : List Int) : Int × Int × Bool := if goodMarks zs then ((trimF zs).1, (trimF zs).2, true) else (0, 0, false)
def trimmedMeanF (zs : List Int) : Int × Int × Bool := if goodMarks zs then ((lowF (trimF zs).1 (trimF zs).2).1, (lowF (trimF zs).1 (trimF zs).2).2, true) else (0, 0, false)
def trimmedPointsF (zs : List Int) (f p m : Int) : Int × Bool := if goodMarks zs && inB 0 10000 f && inB 1 1000 p && inB (-1) 1 m then (modeF ((trimF zs).1 * f) ((trimF zs).2 * p) m, true) else (0, false)

theorem i.trim_c (A : Option Addr) (n c B : Nat) (zs : List Int) (w : World) (h : SlI w B A n zs) (hB : B ≤ w.heap.size) (hn : n ≤ 1048576) (hz : Small zs) :
    Calls Try.prog 55 #[.slice A n c] w fun e w' => e = .returned (.tuple #[.int .i64 (trimF zs).1, .int .i64 (trimF zs).2]) ∧ Ext w w' :=
  (i.trimmedSum_any A n c B zs w h hn hz).mono fun _ _ ⟨he, hw⟩ => ⟨he, hw ▸ Ext.refl _⟩
theorem s.trim_c (A : Option Addr) (n c B : Nat) (zs : List Int) (w : World) (h : SlI w B A n zs) (hB : B ≤ w.heap.size) (hn : n ≤ 1048576) (hz : Small zs) :
    Calls Try.prog 54 #[.slice A n c] w fun e w' => e = .returned (.tuple #[.int .i64 (trimF zs).1, .int .i64 (trimF zs).2]) ∧ Ext w w' := s.tmMean_any A n c B zs w h hB hn hz
theorem i.low_c (a b : Int) (w : World) (ha : -4611686018427387904 ≤ a) (ha' : a ≤ 4611686018427387904) (hb : 0 < b) (hb' : b ≤ 4611686018427387904) :
    Calls Try.prog 57 #[.int .i64 a, .int .i64 b] w fun e w' => e = .returned (.tuple #[.int .i64 (lowF a b).1, .int .i64 (lowF a b).2]) ∧ Ext w w' :=
  (i.lowestTerms_any a b w ha ha' hb hb').mono fun _ _ ⟨he, m, hw⟩ => ⟨he, hw ▸ Ext.drewN _ _⟩

theorem s.low_c (a b : Int) (w : World) (ha : -4611686018427387904 ≤ a) (ha' : a ≤ 4611686018427387904) (hb : 0 < b) (hb' : b ≤ 4611686018427387904) :
    Calls Try.prog 56 #[.int .i64 a, .int .i64 b] w fun e w' => e = .returned (.tuple #[.int .i64 (lowF a b).1, .int .i64 (lowF a b).2]) ∧ Ext w w' :=
  (s.poLowest_any a b w ha ha' hb hb').mono fun _ _ ⟨he, m, hw⟩ => ⟨he, hw ▸ Ext.drewN _ _⟩

theorem i.TrimmedSum_law (w : World) (v : Value) (z0 : List Int) (h : kI.rd w v z0) (hok : kI.ok z0) :
    Calls Try.prog 27 #[v] w fun e w' => e = .returned (.tuple #[.int .i64 (trimmedSumF z0).1, .int .i64 (trimmedSumF z0).2.1, .bool (trimmedSumF z0).2.2]) ∧ Ext w w' := by
  obtain ⟨A, c, rfl, h, hnc, hcm⟩ := h
  cases hg : goodMarks z0
  · have HF : Hid (trimmedSumF z0 = (0, 0, false)) := by show _ = _; simp [trimmedSumF, hg]
    rw [HF.out]
    go_enter Try.func27, Try.ntmps27
    go_wp2_with (go_at_call 16; refine (i.AreMarksOf_any _ _ _ _ z0 _ h hok).mono ?_; rintro e w1 ⟨rfl, rfl⟩)
    go_ret3
    exact ⟨rfl, Ext.refl _⟩
  · have HF : Hid (trimmedSumF z0 = ((trimF z0).1, (trimF z0).2, true)) := by show _ = _; simp [trimmedSumF, hg]
    rw [HF.out]
    go_enter Try.func27, Try.ntmps27
    go_wp2_with (first | (go_at_call 16; refine (i.AreMarksOf_any _ _ _ _ z0 _ h hok).mono ?_; rintro e w1 ⟨rfl, rfl⟩) | (go_at_call 55; refine (i.trim_c _ _ _ _ z0 _ h (Nat.le_refl _) hok (good_ok hg).2.2.2).mono ?_; rintro e w1 ⟨rfl, hx⟩))
    go_ret3
    exact ⟨rfl, hx⟩

theorem i.TrimmedMean_law (w : World) (v : Value) (z0 : List Int) (h : kI.rd w v z0) (hok : kI.ok z0) :
    Calls Try.prog 29 #[v] w fun e w' => e = .returned (.tuple #[.int .i64 (trimmedMeanF z0).1, .int .i64 (trimmedMeanF z0).2.1, .bool (trimmedMeanF z0).2.2]) ∧ Ext w w' := by
  obtain ⟨A, c, rfl, h, hnc, hcm⟩ := h
  cases hg : goodMarks z0
  · have HF : Hid (trimmedMeanF z0 = (0, 0, false)) := by show _ = _; simp [trimmedMeanF, hg]
    rw [HF.out]
    go_enter Try.func29, Try.ntmps29
    go_wp2_with (go_at_call 16; refine (i.AreMarksOf_any _ _ _ _ z0 _ h hok).mono ?_; rintro e w1 ⟨rfl, rfl⟩)
    go_ret3
    exact ⟨rfl, Ext.refl _⟩
  · have HF : Hid (trimmedMeanF z0 = ((lowF (trimF z0).1 (trimF z0).2).1, (lowF (trimF z0).1 (trimF z0).2).2, true)) := by show _ = _; simp [trimmedMeanF, hg]
    rw [HF.out]
    obtain ⟨t1, t2, t3, t4⟩ := trim_bd hg
    go_enter Try.func29, Try.ntmps29
    go_wp2_with (first | (go_at_call 16; refine (i.AreMarksOf_any _ _ _ _ z0 _ h hok).mono ?_; rintro e w1 ⟨rfl, rfl⟩) | (go_at_call 55; refine (i.trim_c _ _ _ _ z0 _ h (Nat.le_refl _) hok (good_ok hg).2.2.2).mono ?_; rintro e w1 ⟨rfl, hx⟩) | (go_at_call 57; refine (i.low_c _ _ _ (by omega) (by omega) (by omega) (by omega)).mono ?_; rintro e w2 ⟨rfl, hx2⟩))
    go_ret3
    exact ⟨rfl, hx.trans hx2⟩

theorem i.TrimmedPoints_law (w : World) (v : Value) (z0 : List Int) (f q m : Int) (h : kI.rd w v z0) (hok : kI.ok z0) (_h1 : InR f) (_h2 : InR q) (_h3 : InR m) :
    Calls Try.prog 31 #[v, .int .i64 f, .int .i64 q, .int .i64 m] w fun e w' => e = .returned (.tuple #[.int .i64 (trimmedPointsF z0 f q m).1, .bool (trimmedPointsF z0 f q m).2]) ∧ Ext w w' := by
  obtain ⟨A, c, rfl, h, hnc, hcm⟩ := h
  cases hg : goodMarks z0
  rotate_left
  cases h1 : inB 0 10000 f
  rotate_left
  cases h2 : inB 1 1000 q
  rotate_left
  cases h3 : inB (-1) 1 m
  rotate_left
  · have HF : Hid (trimmedPointsF z0 f q m = (modeF ((trimF z0).1 * f) ((trimF z0).2 * q) m, true)) := by show _ = _; simp [trimmedPointsF, hg, h1, h2, h3]
    rw [HF.out]
    obtain ⟨t1, t2, t3, t4⟩ := trim_bd hg
    have f1 : 0 ≤ f ∧ f ≤ 10000 := by simpa [inB] using h1
    have f2 : 1 ≤ q ∧ q ≤ 1000 := by simpa [inB] using h2
    obtain ⟨f1, f1'⟩ := f1
    obtain ⟨f2, f2'⟩ := f2
    have hz := (good_ok hg).2.2.2
    generalize hT : (trimF z0).1 = T at *
    generalize hU : (trimF z0).2 = U at *
    have HT := hide hT
    have HU := hide hU
    clear hT hU
    have b1 : -1000000000 ≤ T * f := by have := Int.mul_le_mul_of_nonneg_right t1 f1; omega
    have b2 : T * f ≤ 1000000000 := by have := Int.mul_le_mul_of_nonneg_right t2 f1; omega
    have b3 : 1 ≤ U * q := by have := Int.mul_le_mul t3 f2 (by omega) (by omega); omega
    have b4 : U * q ≤ 9000 := by have := Int.mul_le_mul t4 f2' (by omega) (by omega); omega
    go_enter Try.func31, Try.ntmps31
    go_wp2_with (first | (go_at_call 16; refine (i.AreMarksOf_any _ _ _ _ z0 _ h hok).mono ?_; rintro e w1 ⟨rfl, rfl⟩) | (go_at_call 41; refine (i.within_any _ _ _ _).mono ?_; rintro e w1 ⟨rfl, rfl⟩) | (go_at_call 60; refine (i.isMode_any _ _).mono ?_; rintro e w1 ⟨rfl, rfl⟩) | (go_at_call 55; refine (i.trim_c _ _ _ _ z0 _ h (Nat.le_refl _) hok hz).mono ?_; rintro e w1 ⟨rfl, hx⟩; rw [HT.out, HU.out]) | (go_at_call 61; refine (i.roundPart_any _ _ _ _ (by omega) (by omega) (by omega) (by omega) h3).mono ?_; rintro e w1 ⟨rfl, rfl⟩))
    go_ret2
    exact ⟨rfl, hx⟩
  all_goals
    have HF : Hid (trimmedPointsF z0 f q m = (0, false)) := by show _ = _; simp_all [trimmedPointsF]
    rw [HF.out]
    go_enter Try.func31, Try.ntmps31
    go_wp2_with (first | (go_at_call 16; refine (i.AreMarksOf_any _ _ _ _ z0 _ h hok).mono ?_; rintro e w1 ⟨rfl, rfl⟩) | (go_at_call 41; refine (i.within_any _ _ _ _).mono ?_; rintro e w1 ⟨rfl, rfl⟩) | (go_at_call 60; refine (i.isMode_any _ _).mono ?_; rintro e w1 ⟨rfl, rfl⟩))
    go_ret2
    exact ⟨rfl, Ext.refl _⟩

theorem s.TrimmedSum_law (w : World) (v : Value) (z0 : List Int) (h : kI.rd w v z0) (hok : kI.ok z0) :
    Calls Try.prog 26 #[v] w fun e w' => e = .returned (.tuple #[.int .i64 (trimmedSumF z0).1, .int .i64 (trimmedSumF z0).2.1, .bool (trimmedSumF z0).2.2]) ∧ Ext w w' := by
  obtain ⟨A, c, rfl, h, hnc, hcm⟩ := h
  cases hg : goodMarks z0
  · have HF : Hid (trimmedSumF z0 = (0, 0, false)) := by show _ = _; simp [trimmedSumF, hg]
    rw [HF.out]
    go_enter Try.func26, Try.ntmps26
    go_wp2_with (go_at_call 40; refine (s.tmGood_any _ _ _ _ z0 _ h hok).mono ?_; rintro e w1 ⟨rfl, rfl⟩)
    go_ret3
    exact ⟨rfl, Ext.refl _⟩
  · have HF : Hid (trimmedSumF z0 = ((trimF z0).1, (trimF z0).2, true)) := by show _ = _; simp [trimmedSumF, hg]
    rw [HF.out]
    go_enter Try.func26, Try.ntmps26
    go_wp2_with (first | (go_at_call 40; refine (s.tmGood_any _ _ _ _ z0 _ h hok).mono ?_; rintro e w1 ⟨rfl, rfl⟩) | (go_at_call 54; refine (s.trim_c _ _ _ _ z0 _ h (Nat.le_refl _) hok (good_ok hg).2.2.2).mono ?_; rintro e w1 ⟨rfl, hx⟩))
    go_ret3
    exact ⟨rfl, hx⟩

theorem s.TrimmedMean_law (w : World) (v : Value) (z0 : List Int) (h : kI.rd w v z0) (hok : kI.ok z0) :
    Calls Try.prog 28 #[v] w fun e w' => e = .returned (.tuple #[.int .i64 (trimmedMeanF z0).1, .int .i64 (trimmedMeanF z0).2.1, .bool (trimmedMeanF z0).2.2]) ∧ Ext w w' := by
  obtain ⟨A, c, rfl, h, hnc, hcm⟩ := h
  cases hg : goodMarks z0
  · have HF : Hid (trimmedMeanF z0 = (0, 0, false)) := by show _ = _; simp [trimmedMeanF, hg]
    rw [HF.out]
    go_enter Try.func28, Try.ntmps28
    go_wp2_with (go_at_call 40; refine (s.tmGood_any _ _ _ _ z0 _ h hok).mono ?_; rintro e w1 ⟨rfl, rfl⟩)
    go_ret3
    exact ⟨rfl, Ext.refl _⟩
  · have HF : Hid (trimmedMeanF z0 = ((lowF (trimF z0).1 (trimF z0).2).1, (lowF (trimF z0).1 (trimF z0).2).2, true)) := by show _ = _; simp [trimmedMeanF, hg]
    rw [HF.out]
    obtain ⟨t1, t2, t3, t4⟩ := trim_bd hg
    go_enter Try.func28, Try.ntmps28
    go_wp2_with (first | (go_at_call 40; refine (s.tmGood_any _ _ _ _ z0 _ h hok).mono ?_; rintro e w1 ⟨rfl, rfl⟩) | (go_at_call 54; refine (s.trim_c _ _ _ _ z0 _ h (Nat.le_refl _) hok (good_ok hg).2.2.2).mono ?_; rintro e w1 ⟨rfl, hx⟩) | (go_at_call 56; refine (s.low_c _ _ _ (by omega) (by omega) (by omega) (by omega)).mono ?_; rintro e w2 ⟨rfl, hx2⟩))
    go_ret3
    exact ⟨rfl, hx.trans hx2⟩

theorem s.TrimmedPoints_law (w : World) (v : Value) (z0 : List Int) (f q m : Int) (h : kI.rd w v z0) (hok : kI.ok z0) (_h1 : InR f) (_h2 : InR q) (_h3 : InR m) :
    Calls Try.prog 30 #[v, .int .i64 f, .int .i64 q, .int .i64 m] w fun e w' => e = .returned (.tuple #[.int .i64 (trimmedPointsF z0 f q m).1, .bool (trimmedPointsF z0 f q m).2]) ∧ Ext w w' := by
  obtain ⟨A, c, rfl, h, hnc, hcm⟩ := h
  cases hg : goodMarks z0
  rotate_left
  cases h1 : inB 0 10000 f
  rotate_left
  cases h2 : inB 1 1000 q
  rotate_left
  cases h3 : inB (-1) 1 m
  rotate_left
  · have HF : Hid (trimmedPointsF z0 f q m = (modeF ((trimF z0).1 * f) ((trimF z0).2 * q) m, true)) := by show _ = _; simp [trimmedPointsF, hg, h1, h2, h3]
    rw [HF.out]
    obtain ⟨t1, t2, t3, t4⟩ := trim_bd hg
    have f1 : 0 ≤ f ∧ f ≤ 10000 := by simpa [inB] using h1
    have f2 : 1 ≤ q ∧ q ≤ 1000 := by simpa [inB] using h2
    obtain ⟨f1, f1'⟩ := f1
    obtain ⟨f2, f2'⟩ := f2
    have hz := (good_ok hg).2.2.2
    generalize hT : (trimF z0).1 = T at *
    generalize hU : (trimF z0).2 = U at *
    have HT := hide hT
    have HU := hide hU
    clear hT hU
    have b1 : -1000000000 ≤ T * f := by have := Int.mul_le_mul_of_nonneg_right t1 f1; omega
    have b2 : T * f ≤ 1000000000 := by have := Int.mul_le_mul_of_nonneg_right t2 f1; omega
    have b3 : 1 ≤ U * q := by have := Int.mul_le_mul t3 f2 (by omega) (by omega); omega
    have b4 : U * q ≤ 9000 := by have := Int.mul_le_mul t4 f2' (by omega) (by omega); omega
    go_enter Try.func30, Try.ntmps30
    go_wp2_with (first | (go_at_call 40; refine (s.tmGood_any _ _ _ _ z0 _ h hok).mono ?_; rintro e w1 ⟨rfl, rfl⟩) | (go_at_call 44; refine (s.l1In_any _ _ _ _).mono ?_; rintro e w1 ⟨rfl, rfl⟩) | (go_at_call 58; refine (s.poIsMode_any _ _).mono ?_; rintro e w1 ⟨rfl, rfl⟩) | (go_at_call 54; refine (s.trim_c _ _ _ _ z0 _ h (Nat.le_refl _) hok hz).mono ?_; rintro e w1 ⟨rfl, hx⟩; rw [HT.out, HU.out]) | (go_at_call 59; refine (s.poMode_any _ _ _ _ (by omega) (by omega) (by omega) (by omega) h3).mono ?_; rintro e w1 ⟨rfl, rfl⟩))
    go_ret2
    exact ⟨rfl, hx⟩
  all_goals
    have HF : Hid (trimmedPointsF z0 f q m = (0, false)) := by show _ = _; simp_all [trimmedPointsF]
    rw [HF.out]
    go_enter Try.func30, Try.ntmps30
    go_wp2_with (first | (go_at_call 40; refine (s.tmGood_any _ _ _ _ z0 _ h hok).mono ?_; rintro e w1 ⟨rfl, rfl⟩) | (go_at_call 44; refine (s.l1In_any _ _ _ _).mono ?_; rintro e w1 ⟨rfl, rfl⟩) | (go_at_call 58; refine (s.poIsMode_any _ _).mono ?_; rintro e w1 ⟨rfl, rfl⟩))
    go_ret2
    exact ⟨rfl, Ext.refl _⟩
end Go.Proofs.Yteagigjljejjiaa
