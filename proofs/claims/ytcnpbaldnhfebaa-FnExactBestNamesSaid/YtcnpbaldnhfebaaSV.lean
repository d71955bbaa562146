/- The library's rotation, and its merge in place where one part is a single element. -/
import Derived.Test.YtcnpbaldnhfebaaSU
namespace Go.Proofs.Ytcnpbaldnhfebaa
open Go.RowKit Go.Sort
set_option linter.unusedVariables false

theorem td_app {α : Type} (j : Nat) (U W : List α) : U.take j ++ (U.drop j ++ W) = U ++ W := by rw [← List.append_assoc, List.take_append_drop]

set_option maxHeartbeats 4000000 in
set_option maxRecDepth 1000000 in
theorem rotate_m {α : Type} [Inhabited α] (v : α → Int) (fv : Value) (blk off cap : Nat) (d0 : Array α) (w0 w : World) (R : Row1 (eI v) w0 blk off d0) (P U V Z : List α) (a m b : Nat) (ha : P.length = a) (hm : a + U.length = m) (hb : m + V.length = b) (hs : b + Z.length = d0.size) (hU : 0 < U.length) (hV : 0 < V.length)
    (S : SW (eI v) w0 blk off (P ++ (U ++ (V ++ Z))).toArray w) (hsz : d0.size < 4611686018427387904) :
    Calls Try.prog 96 #[.slice (some ⟨blk, off, none⟩) d0.size cap, .int .i64 a, .int .i64 m, .int .i64 b, fv] w fun e w' => e = .returned (.tuple #[]) ∧ SW (eI v) w0 blk off (P ++ (V ++ (U ++ Z))).toArray w' := by
  obtain ⟨u, hu⟩ : ∃ u, Hid (U.length = u) := ⟨_, rfl⟩
  obtain ⟨l, hl⟩ : ∃ l, Hid (V.length = l) := ⟨_, rfl⟩
  rw [hu.out] at hm hU
  rw [hl.out] at hb hV
  have HA := hide ha
  have S0 := hide S
  have RR := hide R
  clear S R ha
  have w1 : IntKind.i64.wrap ((m : Int) - (a : Int)) = (u : Int) := by rw [IntWalk.i64_in _ (by omega)]; omega
  have w2 : IntKind.i64.wrap ((b : Int) - (m : Int)) = (l : Int) := by rw [IntWalk.i64_in _ (by omega)]; omega
  have HM := hide hm
  have HB := hide hb
  clear hm hb
  go_enter Try.func96, Try.ntmps96
  go_wp2
  go_loopw [10, 11] (fun s10 s11 wr => ∃ (X U' V' Y : List α) (i j : Nat), s10 = .int .i64 i ∧ s11 = .int .i64 j ∧ 0 < i ∧ 0 < j ∧ Hid (U'.length = i) ∧ Hid (V'.length = j) ∧ Hid (P.length + X.length + i = m) ∧ Hid (X.length + i + j + Y.length = u + l) ∧ Hid (X ++ (V' ++ (U' ++ Y)) = V ++ U) ∧ Hid (SW (eI v) w0 blk off (P ++ (X ++ (U' ++ (V' ++ (Y ++ Z))))).toArray wr)) (fun s10 s11 _ => (intOf s10).toNat + (intOf s11).toNat)
  case atStart => exact ⟨[], U, V, [], u, l, rfl, rfl, hU, hV, hu, hl, by show _ = _; have := HA.out; have := HM.out; simp only [List.length_nil]; omega, by show _ = _; simp only [List.length_nil]; omega, by show _ = _; simp, by show SW _ _ _ _ _ _; simpa using S0.out⟩
  case round =>
    obtain ⟨X, U', V', Y, i, j, rfl, rfl, hi, hj, hU', hV', hm', hn', he, S1⟩ := hrel
    obtain ⟨k, hk⟩ : ∃ k, Hid ((P ++ X).length = k) := ⟨_, rfl⟩
    have hkm : k + i = m := by have h1 := hk.out; have h2 := hm'.out; rw [List.length_append] at h1; omega
    have hbk : m + j + Y.length = b := by have h2 := hm'.out; have h3 := hn'.out; have h4 := HA.out; have h5 := HM.out; have h6 := HB.out; omega
    have wk : IntKind.i64.wrap ((m : Int) - (i : Int)) = (k : Int) := by rw [IntWalk.i64_in _ (by omega)]; omega
    have ib : i ≤ d0.size := by omega
    have jb : j ≤ d0.size := by omega
    have HK := hide hkm
    have HBK := hide hbk
    clear hkm hbk
    by_cases hij : i = j
    · subst hij
      have SS : Hid (SW (eI v) w0 blk off ((P ++ X) ++ (U' ++ ([] ++ (V' ++ (Y ++ Z))))).toArray wr) := by show SW _ _ _ _ _ _; simpa using S1.out
      have FSU : Hid (∀ wx, SW (eI v) w0 blk off ((P ++ X) ++ (V' ++ ([] ++ (U' ++ (Y ++ Z))))).toArray wx → SW (eI v) w0 blk off (P ++ (V ++ (U ++ Z))).toArray wx) := fun wx hx => by
        have e : (P ++ X) ++ (V' ++ ([] ++ (U' ++ (Y ++ Z)))) = P ++ ((X ++ (V' ++ (U' ++ Y))) ++ Z) := by simp
        rw [e, he.out] at hx
        simpa using hx
      have CC := hide (swapRange_m v fv blk off cap d0 w0 wr RR.out (P ++ X) U' [] V' (Y ++ Z) i k m hU'.out hV'.out hk.out (by have h1 := hk.out; have h2 := HK.out; rw [h1, List.length_nil]; omega) (by have := HBK.out; rw [List.length_append]; omega) SS.out hsz)
      clear SS S1 he
      go_wp2_with (go_at_call 111; refine CC.out.mono ?_; rintro e w' ⟨rfl, S3⟩)
      go_end0
      exact ⟨rfl, FSU.out _ S3⟩
    · have hijz : ¬ (i : Int) = (j : Int) := by omega
      by_cases hgt : j < i
      · have hgtz : (j : Int) < (i : Int) := by omega
        have wd : IntKind.i64.wrap ((i : Int) - (j : Int)) = ((i - j : Nat) : Int) := by rw [IntWalk.i64_in _ (by omega)]; omega
        have SS : Hid (SW (eI v) w0 blk off ((P ++ X) ++ (U'.take j ++ (U'.drop j ++ (V' ++ (Y ++ Z))))).toArray wr) := by
          show SW _ _ _ _ _ _
          rw [td_app]
          simpa using S1.out
        have tl : (U'.take j).length = j := by rw [List.length_take, hU'.out]; omega
        have dl : (U'.drop j).length = i - j := by rw [List.length_drop, hU'.out]
        have CC := hide (swapRange_m v fv blk off cap d0 w0 wr RR.out (P ++ X) (U'.take j) (U'.drop j) V' (Y ++ Z) j k m tl hV'.out hk.out (by have h1 := hk.out; have h2 := HK.out; rw [h1, dl]; omega) (by have := HBK.out; rw [List.length_append]; omega) SS.out hsz)
        have TL := hide tl
        have DL := hide dl
        clear SS S1 tl dl
        go_wp2_with (go_at_call 111; refine CC.out.mono ?_; rintro e w' ⟨rfl, S3⟩)
        go_roundw
        case rel =>
          refine ⟨X ++ V', U'.drop j, U'.take j, Y, i - j, j, rfl, rfl, by omega, hj, DL, TL, ?_, ?_, ?_, ?_⟩
          · show _ = _; have h1 := hk.out; have h2 := HK.out; have h3 := hV'.out; rw [List.length_append] at h1 ⊢; omega
          · show _ = _; have h1 := hn'.out; have h3 := hV'.out; rw [List.length_append]; omega
          · show _ = _; rw [← he.out, td_app]; simp
          · show SW _ _ _ _ _ _; simpa using S3
        case measure => simp [intOf]; omega
      · have hgtz : ¬ (j : Int) < (i : Int) := by omega
        have wd : IntKind.i64.wrap ((j : Int) - (i : Int)) = ((j - i : Nat) : Int) := by rw [IntWalk.i64_in _ (by omega)]; omega
        obtain ⟨q, hq⟩ : ∃ q, Hid (m + j - i = q) := ⟨_, rfl⟩
        have wq1 : IntKind.i64.wrap ((m : Int) + (j : Int)) = (m : Int) + (j : Int) := by rw [IntWalk.i64_in _ (by have := HBK.out; omega)]
        have wq : IntKind.i64.wrap ((m : Int) + (j : Int) - (i : Int)) = (q : Int) := by have := hq.out; rw [IntWalk.i64_in _ (by have := HBK.out; omega)]; omega
        have SS : Hid (SW (eI v) w0 blk off ((P ++ X) ++ (U' ++ (V'.take (j - i) ++ (V'.drop (j - i) ++ (Y ++ Z))))).toArray wr) := by
          show SW _ _ _ _ _ _
          rw [td_app]
          simpa using S1.out
        have tl : (V'.take (j - i)).length = j - i := by rw [List.length_take, hV'.out]; omega
        have dl : (V'.drop (j - i)).length = i := by rw [List.length_drop, hV'.out]; omega
        have CC := hide (swapRange_m v fv blk off cap d0 w0 wr RR.out (P ++ X) U' (V'.take (j - i)) (V'.drop (j - i)) (Y ++ Z) i k q hU'.out dl hk.out (by have h1 := hk.out; have h2 := HK.out; have h3 := hq.out; rw [h1, tl]; omega) (by have := HBK.out; have h3 := hq.out; rw [List.length_append]; omega) SS.out hsz)
        have TL := hide tl
        have DL := hide dl
        clear SS S1 tl dl
        go_wp2_with (go_at_call 111; refine CC.out.mono ?_; rintro e w' ⟨rfl, S3⟩)
        go_roundw
        case rel =>
          refine ⟨X, V'.drop (j - i), V'.take (j - i), U' ++ Y, i, j - i, rfl, rfl, hi, by omega, DL, TL, hm', ?_, ?_, ?_⟩
          · show _ = _; have h1 := hn'.out; have h3 := hU'.out; rw [List.length_append]; omega
          · show _ = _; rw [← he.out, ← td_app (j - i) V' (U' ++ Y)]
          · show SW _ _ _ _ _ _; simpa using S3
        case measure => simp [intOf]; omega
end Go.Proofs.Ytcnpbaldnhfebaa
