/- The broken rules; a programme. -/
import Derived.Test.YtiohjcadmahkgaaGreatZI
namespace Go.Proofs.YtiohjcadmahkgaaGreat
open Go.RowKit Go.Sort
set_option linter.unusedVariables false

theorem pgOk {d : CoD} {xs : List ItD} (hd : codeB d = true) (hi : itemsB xs = true) (hw : wtL kdItem xs ≤ 1048576) : PgOk d xs := by
  simp only [itemsB, Bool.and_eq_true, List.all_eq_true, decide_eq_true_eq] at hi
  exact ⟨codeB_ok hd, by omega, fun x hx => by have := itemB_ok (hi.1 x hx); omega, hw⟩
def brkF (d : CoD) (xs : List ItD) : List Int × Bool := if codeB d && itemsB xs then (brokenF d xs, true) else ([], false)
theorem brokenN_len (d : CoD) (xs : List ItD) (k : Nat) : (brokenN d xs k).length ≤ k := by
  unfold brokenN
  exact Nat.le_trans (List.length_filter_le _ _) (by simp)

set_option maxRecDepth 100000 in
set_option maxHeartbeats 4000000 in
theorem i.BrokenRules_m (w : World) (v : Value) (d : CoD) (A : Option Addr) (c B : Nat) (xs : List ItD) (h : kC.rd w v d) (hok : kC.ok d) (hi : LR kdItem w B A c xs) (hB : B ≤ w.heap.size) (hwt : wtL kdItem xs ≤ 1048576) :
    Calls Tryz.prog 48 #[v, .slice A xs.length c] w fun e w' => ∃ A' c' m, e = .returned (.tuple #[.slice A' m c', .bool (brkF d xs).2]) ∧ OwnI 3 w' w.heap.size A' m c' (brkF d xs).1 ∧ Ext w w' := by
  obtain ⟨Ac, nc, cc, Al, nl, cl, rr, b, p, f, rfl⟩ := kC.shape h
  have HR := hide h
  have H := hide hi
  have a1 := hi.1; have a2 := hi.2.1
  obtain ⟨W0, hW0⟩ : ∃ W0, Hid (W0 = w.alloc (.cells #[.slice Ac nc cc, .slice Al nl cl, .int .i64 rr, .int .i64 b, .int .i64 p, .int .i64 f] 34)) := ⟨_, rfl⟩
  have X0 : Hid (Ext w W0) := by rw [hW0.out]; exact Ext.alloc w _
  have B0 : Hid (Blk W0 w.heap.size #[.slice Ac nc cc, .slice Al nl cl, .int .i64 rr, .int .i64 b, .int .i64 p, .int .i64 f] 34) := by rw [hW0.out]; exact Blk.new rfl _ _
  have IC := hide (i.IsCode_m W0 _ d (kC.rd_ext h X0.out) hok)
  have AI := hide (fun (wq : World) (xq : Ext w wq) => i.AreItems_any wq A c B xs (hi.ext xq hB) (Nat.le_trans hB xq.size) hwt)
  have RH := hide (fun (hc : codeB d = true) (hq : itemsB xs = true) (r : Int) (h1 : 1 ≤ r) (h8 : r ≤ 8) (wq : World) (xq : Ext w wq) => i.ruleHolds_m wq _ d A c B xs r (kC.rd_ext HR.out xq) hok (pgOk hc hq hwt) (H.out.ext xq hB) (Nat.le_trans hB xq.size) h1 h8)
  have SU := hide (fun k => brokenN_succ d xs k)
  have BL := hide (fun k => brokenN_len d xs k)
  obtain ⟨F, hF⟩ : ∃ F, Hid (brkF d xs = F) := ⟨_, rfl⟩
  rw [hF.out]
  clear h hi
  obtain ⟨n, hn⟩ : ∃ n, Hid (xs.length = n) := ⟨_, rfl⟩
  rw [hn.out] at a1 AI RH ⊢
  go_enter Tryz.func48, Tryz.ntmps48
  go_wp2_with fail
  rw [← hW0.out]
  clear hW0
  refine IC.out.mono ?_
  rintro e w1 ⟨rfl, x1⟩
  have X1 := hide (X0.out.trans x1)
  have B1 := hide (B0.out.ext x1)
  clear x1 IC
  cases hc : codeB d
  · have HF : Hid (F = ([], false)) := by show _ = _; rw [← hF.out]; simp [brkF, hc]
    clear hc
    go_wp2
    go_ret2
    rw [HF.out]
    exact ⟨_, _, _, rfl, OwnI.nil, X1.out⟩
  have HC := hide hc
  clear hc
  go_wp2_with fail
  refine (AI.out w1 X1.out).mono ?_
  rintro e w2 ⟨rfl, x2⟩
  have X2 := hide (X1.out.trans x2)
  have B2 := hide (B1.out.ext x2)
  clear x2 AI
  cases hq : itemsB xs
  · have HF : Hid (F = ([], false)) := by show _ = _; rw [← hF.out]; simp [brkF, hq]
    clear hq
    go_wp2
    go_ret2
    rw [HF.out]
    exact ⟨_, _, _, rfl, OwnI.nil, X2.out⟩
  have HF : Hid (F = (brokenN d xs 8, true)) := by show _ = _; rw [← hF.out]; unfold brkF; rw [HC.out, hq]; rfl
  have RQ := hide (RH.out HC.out hq)
  clear hq HC RH hF
  have O0 : Hid (OwnI 3 (w2.alloc (.cells #[] 3)) w2.heap.size (some ⟨w2.heap.size, 0, none⟩) 0 0 (brokenN d xs 0)) := Own.empty w2 3 (Nat.le_refl _)
  have Y0 := hide (Ext.alloc w2 (.cells #[] 3))
  have z2 := X2.out.size
  go_wp2
  go_loopw [6, 7] (fun o i0 wr => ∃ (k m : Nat) (A5 : Option Addr) (c5 : Nat), k ≤ 8 ∧ i0 = .int .i64 ((k : Int) + 1) ∧ o = .slice A5 m c5 ∧ OwnI 3 wr w2.heap.size A5 m c5 (brokenN d xs k) ∧ Ext w2 wr) (fun _ i0 _ => 9 - (intOf i0).toNat)
  case atStart => exact ⟨0, 0, _, _, Nat.zero_le _, rfl, rfl, O0.out, Y0.out⟩
  case round =>
    obtain ⟨k, m, A5, c5, hk, rfl, rfl, hown, hx⟩ := hrel
    clear O0 Y0
    have HO := hide hown
    have HX := hide hx
    have oc1 := hown.capn; have oc2 := hown.capm
    have ol := hown.len
    clear hown hx
    have bl := BL.out k
    by_cases hlt : k < 8
    · have m8 : m ≤ 8 := by omega
      clear bl ol
      have XA := hide (X2.out.trans HX.out)
      have cB := (B2.out.ext HX.out).cell
      have RK := hide (RQ.out ((k : Int) + 1) (by omega) (by omega) wr XA.out)
      have SK := hide (SU.out k)
      obtain ⟨U, hU⟩ : ∃ U, Hid (ruleB d xs ((k : Int) + 1) = U) := ⟨_, rfl⟩
      rw [hU.out] at RK SK
      have i8 : (k : Int) + 1 ≤ 8 := by omega
      go_wp2_with fail
      refine RK.out.mono ?_
      rintro e w5 ⟨rfl, x5⟩
      have X5 := hide (HX.out.trans x5)
      have O5 := hide (OwnI.below HO.out x5 (Nat.le_refl _))
      clear x5 RK cB
      cases U
      · rw [if_neg (by decide)] at SK
        obtain ⟨L, hL⟩ : ∃ L, Hid (brokenN d xs k = L) := ⟨_, rfl⟩
        rw [hL.out] at O5 SK
        go_wp2_with (at_builtin; refine wpList_append_sl rfl (.tmp 26) (.tmp 28) rfl elem_int rfl rfl (lo := w2.heap.size) (Own.alloc O5.out (.cells #[.int .i64 ((k : Int) + 1)] 3)) (Sl.one w5 (.int .i64 ((k : Int) + 1)) 3) (one_int _) ?c1 ?c2 ?c3 ?_)
        case c1 => omega
        case c2 => omega
        case c3 => simp; have := X5.out.size; omega
        intro A9 c9 w9 hap
        have XE := hide (hap.ext (X5.out.trans (Ext.alloc w5 _)) (Own.fromLo O5.out))
        have HAP := hide hap
        clear hap
        go_wp2
        go_roundw
        case rel => exact ⟨k + 1, m + 1, A9, c9, by omega, by go_num, rfl, by rw [SK.out]; exact own_conv HAP.out.own (Nat.le_refl _) rfl (by simp), XE.out⟩
        case measure => simp [intOf]; omega
      · rw [if_pos rfl] at SK
        go_wp2
        go_roundw
        case rel => exact ⟨k + 1, m, A5, c5, by omega, by go_num, rfl, by rw [SK.out]; exact O5.out, X5.out⟩
        case measure => simp [intOf]; omega
    · have ek : k = 8 := by omega
      subst ek
      clear bl ol
      go_wp2
      go_ret2
      rw [HF.out]
      exact ⟨_, _, _, rfl, OwnI.lower HO.out (by omega), X2.out.trans HX.out⟩

set_option maxRecDepth 100000 in
set_option maxHeartbeats 4000000 in
theorem s.pgFaults_m (w : World) (v : Value) (d : CoD) (A : Option Addr) (c B : Nat) (xs : List ItD) (h : kC.rd w v d) (hok : kC.ok d) (hi : LR kdItem w B A c xs) (hB : B ≤ w.heap.size) (hg : PgOk d xs) :
    Calls Tryz.prog 41 #[v, .slice A xs.length c] w fun e w' => ∃ A' c' m, e = .returned (.slice A' m c') ∧ OwnI 3 w' w.heap.size A' m c' (brokenF d xs) ∧ Ext w w' := by
  obtain ⟨Ac, nc, cc, Al, nl, cl, rr, b, p, f, rfl⟩ := kC.shape h
  have HR := hide h
  have H := hide hi
  have a1 := hi.1; have a2 := hi.2.1
  obtain ⟨W0, hW0⟩ : ∃ W0, Hid (W0 = w.alloc (.cells #[.slice Ac nc cc, .slice Al nl cl, .int .i64 rr, .int .i64 b, .int .i64 p, .int .i64 f] 34)) := ⟨_, rfl⟩
  have X0 : Hid (Ext w W0) := by rw [hW0.out]; exact Ext.alloc w _
  have B0 : Hid (Blk W0 w.heap.size #[.slice Ac nc cc, .slice Al nl cl, .int .i64 rr, .int .i64 b, .int .i64 p, .int .i64 f] 34) := by rw [hW0.out]; exact Blk.new rfl _ _
  have RQ := hide (fun (r : Int) (h1 : 1 ≤ r) (h8 : r ≤ 8) (wq : World) (xq : Ext w wq) => s.pgHolds_m wq _ d A c B xs r (kC.rd_ext HR.out xq) hok hg (H.out.ext xq hB) (Nat.le_trans hB xq.size) h1 h8)
  have SU := hide (fun k => brokenN_succ d xs k)
  have BL := hide (fun k => brokenN_len d xs k)
  obtain ⟨F, hF⟩ : ∃ F, Hid (brokenN d xs 8 = F) := ⟨_, rfl⟩
  have eF : brokenF d xs = F := hF.out
  rw [eF]
  clear h hi eF hg
  obtain ⟨n, hn⟩ : ∃ n, Hid (xs.length = n) := ⟨_, rfl⟩
  rw [hn.out] at a1 RQ ⊢
  have O0 : Hid (OwnI 3 W0 W0.heap.size none 0 0 (brokenN d xs 0)) := OwnI.nil
  have Y0 := hide (Ext.refl W0)
  have z2 := X0.out.size
  go_enter Tryz.func41, Tryz.ntmps41
  go_wp2
  rw [← hW0.out]
  clear hW0
  go_loopw [5, 6] (fun o i0 wr => ∃ (k m : Nat) (A5 : Option Addr) (c5 : Nat), k ≤ 8 ∧ i0 = .int .i64 ((k : Int) + 1) ∧ o = .slice A5 m c5 ∧ OwnI 3 wr W0.heap.size A5 m c5 (brokenN d xs k) ∧ Ext W0 wr) (fun _ i0 _ => 9 - (intOf i0).toNat)
  case atStart => exact ⟨0, 0, _, _, Nat.zero_le _, rfl, rfl, O0.out, Y0.out⟩
  case round =>
    obtain ⟨k, m, A5, c5, hk, rfl, rfl, hown, hx⟩ := hrel
    clear O0 Y0
    have HO := hide hown
    have HX := hide hx
    have oc1 := hown.capn; have oc2 := hown.capm
    have ol := hown.len
    clear hown hx
    have bl := BL.out k
    by_cases hlt : k < 8
    · have m8 : m ≤ 8 := by omega
      clear bl ol
      have XA := hide (X0.out.trans HX.out)
      have cB := (B0.out.ext HX.out).cell
      have RK := hide (RQ.out ((k : Int) + 1) (by omega) (by omega) wr XA.out)
      have SK := hide (SU.out k)
      obtain ⟨U, hU⟩ : ∃ U, Hid (ruleB d xs ((k : Int) + 1) = U) := ⟨_, rfl⟩
      rw [hU.out] at RK SK
      have i8 : (k : Int) + 1 ≤ 8 := by omega
      go_wp2_with fail
      refine RK.out.mono ?_
      rintro e w5 ⟨rfl, x5⟩
      have X5 := hide (HX.out.trans x5)
      have O5 := hide (OwnI.below HO.out x5 (Nat.le_refl _))
      clear x5 RK cB
      cases U
      · rw [if_neg (by decide)] at SK
        obtain ⟨L, hL⟩ : ∃ L, Hid (brokenN d xs k = L) := ⟨_, rfl⟩
        rw [hL.out] at O5 SK
        go_wp2_with (at_builtin; refine wpList_append_sl rfl (.tmp 16) (.tmp 18) rfl elem_int rfl rfl (lo := W0.heap.size) (Own.alloc O5.out (.cells #[.int .i64 ((k : Int) + 1)] 3)) (Sl.one w5 (.int .i64 ((k : Int) + 1)) 3) (one_int _) ?c1 ?c2 ?c3 ?_)
        case c1 => omega
        case c2 => omega
        case c3 => simp; have := X5.out.size; omega
        intro A9 c9 w9 hap
        have XE := hide (hap.ext (X5.out.trans (Ext.alloc w5 _)) (Own.fromLo O5.out))
        have HAP := hide hap
        clear hap
        go_wp2
        go_roundw
        case rel => exact ⟨k + 1, m + 1, A9, c9, by omega, by go_num, rfl, by rw [SK.out]; exact own_conv HAP.out.own (Nat.le_refl _) rfl (by simp), XE.out⟩
        case measure => simp [intOf]; omega
      · rw [if_pos rfl] at SK
        go_wp2
        go_roundw
        case rel => exact ⟨k + 1, m, A5, c5, by omega, by go_num, rfl, by rw [SK.out]; exact O5.out, X5.out⟩
        case measure => simp [intOf]; omega
    · have ek : k = 8 := by omega
      subst ek
      clear bl ol
      rw [hF.out] at HO
      go_wp2
      go_ret
      exact ⟨_, _, _, rfl, OwnI.lower HO.out (by omega), X0.out.trans HX.out⟩
end Go.Proofs.YtiohjcadmahkgaaGreat
