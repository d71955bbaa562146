import Derived.Test.YteagigjljejjiaaTE
namespace Go.Proofs.Yteagigjljejjiaa
open Go.RowKit
set_option linter.unusedVariables false

/-- Numbers that are added up without harm. -/
theorem good_small {zs : List Int} (h : zs.all (inB (-1000) 1000) = true) : ∀ z ∈ zs, -1000 ≤ z ∧ z ≤ 1000 := by
  intro z hz
  have := List.all_eq_true.1 h z hz
  simpa [inB] using this
theorem maxL_small {zs : List Int} (h : Small zs) : -1000000000 ≤ maxL zs ∧ maxL zs ≤ 1000000000 := by
  cases zs with
  | nil => simp [maxL]
  | cons x t => exact h _ (maxL_spec (x :: t) (by simp)).1
theorem minL_small {zs : List Int} (h : Small zs) : -1000000000 ≤ minL zs ∧ minL zs ≤ 1000000000 := by
  cases zs with
  | nil => simp [minL]
  | cons x t => exact h _ (minL_spec (x :: t) (by simp)).1

set_option maxHeartbeats 400000 in
theorem i.trimmedSum_any (A : Option Addr) (n c B : Nat) (zs : List Int) (w : World) (h : SlI w B A n zs) (hn : n ≤ 1048576) (hz : Small zs) :
    Calls Try.prog 55 #[.slice A n c] w fun e w' => e = .returned (.tuple #[.int .i64 (trimF zs).1, .int .i64 (trimF zs).2]) ∧ w = w' := by
  have hl := hide h.len
  obtain ⟨s1, s2⟩ := sum_take_bound zs n n hz (Nat.le_refl _) hn
  rw [sum_take_all zs n (by rw [h.len]; omega)] at s1 s2
  obtain ⟨m1, m2⟩ := maxL_small hz
  obtain ⟨m3, m4⟩ := minL_small hz
  by_cases h5 : n < 5
  · have HF : Hid (trimF zs = (zs.sum, (n : Int))) := by show _ = _; unfold trimF; rw [if_pos (by rw [hl.out]; exact h5), hl.out]
    have h5' : (n : Int) < 5 := by omega
    go_enter Try.func55, Try.ntmps55
    go_wp2_with (go_at_call 70; refine (i.sumInts_any _ _ _ _ zs _ h hn hz).mono ?_; rintro e w1 ⟨rfl, rfl⟩)
    go_ret2
    exact ⟨by rw [HF.out]; rfl, rfl⟩
  · have HF : Hid (trimF zs = (zs.sum - maxL zs - minL zs, (n : Int) - 2)) := by show _ = _; unfold trimF; rw [if_neg (by rw [hl.out]; exact h5), hl.out]
    have h5' : ¬ (n : Int) < 5 := by omega
    go_enter Try.func55, Try.ntmps55
    go_wp2_with (first | (go_at_call 70; refine (i.sumInts_any _ _ _ _ zs _ h hn hz).mono ?_; rintro e w1 ⟨rfl, rfl⟩) | (go_at_call 52; refine (slicesMax_any _ _ _ _ zs _ h hn (by omega)).mono ?_; rintro e w1 ⟨rfl, rfl⟩) | (go_at_call 53; refine (slicesMin_any _ _ _ _ zs _ h hn (by omega)).mono ?_; rintro e w1 ⟨rfl, rfl⟩))
    go_ret2
    exact ⟨by rw [HF.out]; rfl, rfl⟩

set_option maxHeartbeats 400000 in
theorem s.tmMean_any (A : Option Addr) (n c B : Nat) (zs : List Int) (w : World) (h : SlI w B A n zs) (hB : B ≤ w.heap.size) (hn : n ≤ 1048576) (hz : Small zs) :
    Calls Try.prog 54 #[.slice A n c] w fun e w' => e = .returned (.tuple #[.int .i64 (trimF zs).1, .int .i64 (trimF zs).2]) ∧ Ext w w' := by
  have hl := hide h.len
  obtain ⟨s1, s2⟩ := sum_take_bound zs n n hz (Nat.le_refl _) hn
  rw [sum_take_all zs n (by rw [h.len]; omega)] at s1 s2
  obtain ⟨m1, m2⟩ := maxL_small hz
  obtain ⟨m3, m4⟩ := minL_small hz
  by_cases h5 : n < 5
  · have HF : Hid (trimF zs = (zs.sum, (n : Int))) := by show _ = _; unfold trimF; rw [if_pos (by rw [hl.out]; exact h5), hl.out]
    have h5' : (n : Int) < 5 := by omega
    go_enter Try.func54, Try.ntmps54
    go_wp2_with (go_at_call 69; refine (s.poSum_any _ _ _ _ zs _ h hn hz).mono ?_; rintro e w1 ⟨rfl, rfl⟩)
    go_ret2
    exact ⟨by rw [HF.out]; rfl, Ext.refl _⟩
  · have HF : Hid (trimF zs = (zs.sum - maxL zs - minL zs, (n : Int) - 2)) := by show _ = _; unfold trimF; rw [if_neg (by rw [hl.out]; exact h5), hl.out]
    have h5' : ¬ (n : Int) < 5 := by omega
    have hne : zs ≠ [] := by rintro rfl; have := hl.out; simp at this; omega
    have e1 := hide (sortD_head zs hne)
    have e2 := hide (sortD_last zs hne)
    go_enter Try.func54, Try.ntmps54
    go_wp2_with (first | (go_at_call 69; refine (s.poSum_any _ _ _ _ zs _ h hn hz).mono ?_; rintro e w1 ⟨rfl, rfl⟩) | (go_at_call 68; refine (s.poSorted_any _ _ _ _ zs _ h hB hn).mono ?_; rintro e w1 ⟨S, c1, rfl, ho, hx⟩; have HO := hide ho; have HX := hide hx; clear ho hx))
    obtain ⟨b, off, rfl, hb, hc⟩ := HO.out.sl.cells (by omega)
    have hc0 : w1.cell? ⟨b, off, none⟩ = some (.int .i64 (maxL zs)) := by have := hc 0 (by omega); rwa [e1.out] at this
    have hc1 : w1.cell? ⟨b, off + (n - 1), none⟩ = some (.int .i64 (minL zs)) := by have := hc (n - 1) (by omega); rwa [show (sortD zs).getD (n - 1) 0 = minL zs by rw [← e2.out, hl.out]] at this
    clear hc
    generalize maxL zs = M at *
    generalize minL zs = m at *
    generalize zs.sum = S at *
    have i0 : (0 : Int) < n := by omega
    have i1 : IntKind.i64.wrap ((n : Int) - 1) = (n : Int) - 1 := IntWalk.i64_in _ (by omega)
    have i2 : (0 : Int) ≤ (n : Int) - 1 := by omega
    have i2' : (1 : Int) ≤ (n : Int) := by omega
    have i3 : ((n : Int) - 1).toNat = n - 1 := by omega
    have i4 : (n : Int) - 1 < n := by omega
    have i5 : IntKind.i64.wrap (S - M) = S - M := IntWalk.i64_in _ (by omega)
    have i6 : IntKind.i64.wrap (S - M - m) = S - M - m := IntWalk.i64_in _ (by omega)
    have i7 : IntKind.i64.wrap ((n : Int) - 2) = (n : Int) - 2 := IntWalk.i64_in _ (by omega)
    go_wp2
    go_quiet (fail)
    clear i0 i1 i2 i2' i3 i4 i5 i6 i7
    go_wp2
    go_ret2
    exact ⟨by rw [HF.out]; rfl, HX.out.trans (Ext.drewN _ _)⟩
end Go.Proofs.Yteagigjljejjiaa
