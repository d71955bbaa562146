/- How many items are combined. -/
import Derived.Test.YtiohjcadmahkgaaGreatPO
namespace Go.Proofs.YtiohjcadmahkgaaGreat
open Go.RowKit Go.Sort
set_option linter.unusedVariables false

theorem filter_succ {α : Type} (f : α → Bool) {xs : List α} {k : Nat} {x : α} (h : xs[k]? = some x) : ((xs.take (k + 1)).filter f).length = ((xs.take k).filter f).length + if f x then 1 else 0 := by
  obtain ⟨hk, rfl⟩ := List.getElem?_eq_some_iff.1 h
  rw [List.take_succ_eq_append_getElem hk, List.filter_append, List.length_append]
  cases hx : f xs[k] <;> simp [hx]
theorem twoN_succ {xs : List ItD} {k : Nat} {x : ItD} (h : xs[k]? = some x) : twoN (xs.take (k + 1)) = twoN (xs.take k) + if combI x then 1 else 0 := filter_succ combI h
theorem threeN_succ {xs : List ItD} {k : Nat} {x : ItD} (h : xs[k]? = some x) : threeN (xs.take (k + 1)) = threeN (xs.take k) + if decide (2 < x.1.length) then 1 else 0 := filter_succ (fun (x : ItD) => decide (2 < x.1.length)) h

set_option maxRecDepth 100000 in
set_option maxHeartbeats 2000000 in
theorem s.pgCombined_m (w : World) (A : Option Addr) (c B : Nat) (xs : List ItD) (hi : LR kdItem w B A c xs) (hB : B ≤ w.heap.size) (h14 : xs.length ≤ 14) (h3 : ∀ x ∈ xs, x.1.length ≤ 3) :
    Calls Tryz.prog 76 #[.slice A xs.length c] w fun e w' => e = .returned (.tuple #[.int .i64 (twoN xs), .int .i64 (threeN xs)]) ∧ Ext w w' := by
  have H := hide hi
  have H3 := hide h3
  have a1 := hi.1; have a2 := hi.2.1
  clear hi h3
  obtain ⟨n, hn⟩ : ∃ n, Hid (xs.length = n) := ⟨_, rfl⟩
  obtain ⟨RN, hRN⟩ : ∃ z, Hid (twoN xs = z) := ⟨_, rfl⟩
  obtain ⟨RC, hRC⟩ : ∃ z, Hid (threeN xs = z) := ⟨_, rfl⟩
  rw [hn.out] at h14 a1 ⊢
  rw [hRN.out, hRC.out]
  go_enter Tryz.func76, Tryz.ntmps76
  go_wp2
  go_loopw [4, 5, 10] (fun t u i0 wr => ∃ (k a b : Nat), k ≤ n ∧ i0 = .int .i64 k ∧ t = .int .i64 a ∧ u = .int .i64 b ∧ Hid (a = twoN (xs.take k)) ∧ Hid (b = threeN (xs.take k)) ∧ a ≤ k ∧ b ≤ k ∧ Ext w wr) (fun _ _ i0 _ => n - (intOf i0).toNat)
  case atStart => exact ⟨0, 0, 0, Nat.zero_le _, rfl, rfl, rfl, rfl, rfl, Nat.le_refl _, Nat.le_refl _, Ext.refl _⟩
  case round =>
    obtain ⟨k, a, b, hk, rfl, rfl, rfl, ha, hb, la, lb, hx⟩ := hrel
    have HX := hide hx
    clear hx
    by_cases hlt : k < n
    · obtain ⟨x, hxk⟩ : ∃ x, Hid (xs[k]? = some x) := get_exP xs k (by rw [hn.out]; exact hlt)
      have x3 := H3.out x (List.mem_of_getElem? hxk.out)
      obtain ⟨bb, off, A1, c1, A2, c2, rfl, hbb, q0, q1, q2, r1, r2⟩ := (H.out.ext HX.out hB).item k x hxk.out
      have b1 := r1.1; have b2 := r1.2.1
      have TS := hide (twoN_succ hxk.out)
      have HS := hide (threeN_succ hxk.out)
      have CI : combI x = decide (1 < x.1.length) := rfl
      rw [CI] at TS
      have XN := hide (HX.out.trans (Ext.alloc wr (.cells #[.slice A1 x.1.length c1, .slice A2 x.2.1.length c2, .bool x.2.2] 53)))
      clear r1 r2 CI
      obtain ⟨m, hm⟩ : ∃ m, Hid (x.1.length = m) := ⟨_, rfl⟩
      rw [hm.out] at q0 b1 x3 TS HS XN
      generalize x.2.1.length = m2 at *
      generalize x.2.2 = m3 at *
      by_cases h1 : 1 < m
      · by_cases h2 : 2 < m
        · have i1 : (1 : Int) < m := by omega
          have i2 : (2 : Int) < m := by omega
          rw [if_pos (by simp [h1])] at TS
          rw [if_pos (by simp [h2])] at HS
          clear h1 h2
          go_wp2
          go_roundw
          case rel => exact ⟨k + 1, a + 1, b + 1, by omega, by go_num, by go_num, by go_num, by show _ = _; rw [TS.out, ha.out], by show _ = _; rw [HS.out, hb.out], by omega, by omega, XN.out⟩
          case measure => simp [intOf]; omega
        · have i1 : (1 : Int) < m := by omega
          have i2 : ¬ (2 : Int) < m := by omega
          rw [if_pos (by simp [h1])] at TS
          rw [if_neg (by simp [h2])] at HS
          clear h1 h2
          go_wp2
          go_roundw
          case rel => exact ⟨k + 1, a + 1, b, by omega, by go_num, by go_num, rfl, by show _ = _; rw [TS.out, ha.out], by show _ = _; rw [HS.out, hb.out, Nat.add_zero], by omega, by omega, XN.out⟩
          case measure => simp [intOf]; omega
      · have i1 : ¬ (1 : Int) < m := by omega
        have i2 : ¬ (2 : Int) < m := by omega
        rw [if_neg (by simp [h1])] at TS
        rw [if_neg (by simp; omega)] at HS
        clear h1
        go_wp2
        go_roundw
        case rel => exact ⟨k + 1, a, b, by omega, by go_num, rfl, rfl, by show _ = _; rw [TS.out, ha.out, Nat.add_zero], by show _ = _; rw [HS.out, hb.out, Nat.add_zero], by omega, by omega, XN.out⟩
        case measure => simp [intOf]; omega
    · have ek : n = k := by omega
      subst ek
      rw [List.take_of_length_le (by rw [hn.out]; exact Nat.le_refl _)] at ha hb
      rw [hRN.out] at ha
      rw [hRC.out] at hb
      go_wp2
      refine bodyPost_ret (v := .tuple #[.int .i64 a, .int .i64 b]) (by simp [results, Tryz.results76, go_sem]) rfl ?_
      exact ⟨by rw [ha.out, hb.out], HX.out⟩
end Go.Proofs.YtiohjcadmahkgaaGreat
