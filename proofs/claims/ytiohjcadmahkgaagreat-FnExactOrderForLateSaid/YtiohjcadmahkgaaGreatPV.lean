/- How many items are combined. -/
import Derived.Test.YtiohjcadmahkgaaGreatPU
namespace Go.Proofs.YtiohjcadmahkgaaGreat
open Go.RowKit Go.Sort
set_option linter.unusedVariables false


set_option maxRecDepth 100000 in
set_option maxHeartbeats 2000000 in
theorem i.combinesFew_m (w : World) (A : Option Addr) (c B : Nat) (xs : List ItD) (hi : LR kdItem w B A c xs) (hB : B ≤ w.heap.size) (h14 : xs.length ≤ 14) (h3 : ∀ x ∈ xs, x.1.length ≤ 3) :
    Calls Tryz.prog 91 #[.slice A xs.length c] w fun e w' => e = .returned (.bool (decide ((twoN xs : Int) ≤ 3) && decide ((threeN xs : Int) ≤ 1))) ∧ Ext w w' := by
  have H := hide hi
  have H3 := hide h3
  have a1 := hi.1; have a2 := hi.2.1
  clear hi h3
  obtain ⟨n, hn⟩ : ∃ n, Hid (xs.length = n) := ⟨_, rfl⟩
  obtain ⟨R, hR⟩ : ∃ R, Hid ((decide ((twoN xs : Int) ≤ 3) && decide ((threeN xs : Int) ≤ 1)) = R) := ⟨_, rfl⟩
  rw [hn.out] at h14 a1 ⊢
  rw [hR.out]
  go_enter Tryz.func91, Tryz.ntmps91
  go_wp2
  go_loopw [3, 4, 9] (fun t u i0 wr => ∃ (k a b : Nat), k ≤ n ∧ i0 = .int .i64 k ∧ t = .int .i64 a ∧ u = .int .i64 b ∧ Hid (a = twoN (xs.take k)) ∧ Hid (b = threeN (xs.take k)) ∧ a ≤ k ∧ b ≤ k ∧ Ext w wr) (fun _ _ i0 _ => n - (intOf i0).toNat)
  case atStart => exact ⟨0, 0, 0, Nat.zero_le _, rfl, rfl, rfl, rfl, rfl, Nat.le_refl _, Nat.le_refl _, Ext.refl _⟩
  case round =>
    obtain ⟨k, a, b, hk, rfl, rfl, rfl, ha, hb, la, lb, hx⟩ := hrel
    have HX := hide hx
    clear hx
    by_cases hlt : k < n
    · obtain ⟨x, hxk⟩ : ∃ x, Hid (xs[k]? = some x) := get_exP xs k (by rw [hn.out]; exact hlt)
      have x3 := H3.out x (List.mem_of_getElem? hxk.out)
      obtain ⟨bb, off, A1, c1, A2, c2, rfl, hbb, q0, q1, q2, r1, r2⟩ := (H.out.ext HX.out hB).item k x hxk.out
      have b1 := r1.1; have b2 := r1.2.1
      have TS := hide (twoN_succ hxk.out)
      have HS := hide (threeN_succ hxk.out)
      have CI : combI x = decide (1 < x.1.length) := rfl
      rw [CI] at TS
      obtain ⟨W1, hW1⟩ : ∃ W1, Hid (W1 = wr.alloc (.cells #[.slice A1 x.1.length c1, .slice A2 x.2.1.length c2, .bool x.2.2] 53)) := ⟨_, rfl⟩
      have X1 : Hid (Ext w W1) := by rw [hW1.out]; exact HX.out.trans (Ext.alloc _ _)
      have B1 : Hid (Blk W1 wr.heap.size #[.slice A1 x.1.length c1, .slice A2 x.2.1.length c2, .bool x.2.2] 53) := by rw [hW1.out]; exact Blk.new rfl _ _
      clear r1 r2 CI
      obtain ⟨m, hm⟩ : ∃ m, Hid (x.1.length = m) := ⟨_, rfl⟩
      rw [hm.out] at q0 b1 x3 TS HS hW1 B1
      generalize x.2.1.length = m2 at *
      generalize x.2.2 = m3 at *
      have CB := hide (i.isCombined_any W1 A1 A2 m c1 m2 c2 m3 b1 b2)
      go_wp2_with fail
      rw [← hW1.out]
      clear hW1 q0 q1 q2
      refine CB.out.mono ?_
      rintro e w5 ⟨rfl, x5⟩
      have XN := hide (X1.out.trans x5)
      have cI := (B1.out.ext x5).cell
      clear x5 CB
      by_cases h1 : 1 < m
      · by_cases h2 : 2 < m
        · have i1 : (1 : Int) < m := by omega
          have i2 : (m : Int) = 3 := by omega
          rw [if_pos (by simp [h1])] at TS
          rw [if_pos (by simp [h2])] at HS
          rw [show decide (1 < m) = true from by simp [h1]]
          clear h1 h2
          go_wp2
          go_roundw
          case rel => exact ⟨k + 1, a + 1, b + 1, by omega, by go_num, by go_num, by go_num, by show _ = _; rw [TS.out, ha.out], by show _ = _; rw [HS.out, hb.out], by omega, by omega, XN.out⟩
          case measure => simp [intOf]; omega
        · have i1 : (1 : Int) < m := by omega
          have i2 : ¬ (m : Int) = 3 := by omega
          rw [if_pos (by simp [h1])] at TS
          rw [if_neg (by simp [h2])] at HS
          rw [show decide (1 < m) = true from by simp [h1]]
          clear h1 h2
          go_wp2
          go_roundw
          case rel => exact ⟨k + 1, a + 1, b, by omega, by go_num, by go_num, rfl, by show _ = _; rw [TS.out, ha.out], by show _ = _; rw [HS.out, hb.out, Nat.add_zero], by omega, by omega, XN.out⟩
          case measure => simp [intOf]; omega
      · have i1 : ¬ (1 : Int) < m := by omega
        have i2 : ¬ (m : Int) = 3 := by omega
        rw [if_neg (by simp [h1])] at TS
        rw [if_neg (by simp; omega)] at HS
        rw [show decide (1 < m) = false from by simp [h1]]
        clear h1
        go_wp2
        go_roundw
        case rel => exact ⟨k + 1, a, b, by omega, by go_num, rfl, rfl, by show _ = _; rw [TS.out, ha.out, Nat.add_zero], by show _ = _; rw [HS.out, hb.out, Nat.add_zero], by omega, by omega, XN.out⟩
        case measure => simp [intOf]; omega
    · have ek : n = k := by omega
      subst ek
      rw [List.take_of_length_le (by rw [hn.out]; exact Nat.le_refl _)] at ha hb
      by_cases h5 : (a : Int) ≤ 3
      · by_cases h6 : (b : Int) ≤ 1
        · have HF : Hid (R = true) := by show _ = _; rw [← hR.out, ← ha.out, ← hb.out]; simp [h5, h6]
          go_wp2
          go_ret
          exact ⟨ret_bool HF.out.symm, HX.out⟩
        · have HF : Hid (R = false) := by show _ = _; rw [← hR.out, ← ha.out, ← hb.out]; simp [h6]
          go_wp2
          go_ret
          exact ⟨ret_bool HF.out.symm, HX.out⟩
      · have HF : Hid (R = false) := by show _ = _; rw [← hR.out, ← ha.out, ← hb.out]; simp [h5]
        go_wp2
        go_ret
        exact ⟨ret_bool HF.out.symm, HX.out⟩
end Go.Proofs.YtiohjcadmahkgaaGreat
