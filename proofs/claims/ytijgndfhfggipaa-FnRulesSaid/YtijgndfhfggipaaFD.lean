/- What the laws on rules call: rules, broken ones, counts, lateness. (Printed by fd.py.) -/
import Derived.Test.YtijgndfhfggipaaFB
import Derived.Test.YtijgndfhfggipaaEY
namespace Go.Proofs.Ytijgndfhfggipaa
open Go.RowKit Go.Sort
set_option linter.unusedVariables false

theorem inB_lo {a b n : Int} (h : inB a b n = true) : a ≤ n := by simp only [inB, Bool.and_eq_true, decide_eq_true_eq] at h; exact h.1
theorem inB_hi {a b n : Int} (h : inB a b n = true) : n ≤ b := by simp only [inB, Bool.and_eq_true, decide_eq_true_eq] at h; exact h.2

set_option maxRecDepth 100000 in
set_option maxHeartbeats 1000000 in
theorem i.RuleHolds_c (w : World) (v : Value) (d : CoD) (A : Option Addr) (c : Nat) (xs : List ItD) (rl : Int) (h : kC.rd w v d) (hok : kC.ok d) (hl : LR kdItem w w.heap.size A c xs) (hw : wtL kdItem xs ≤ 1048576) :
    Calls Try.prog 14 #[v, .slice A xs.length c, .int .i64 rl] w fun e w' => e = .returned (.tuple #[.bool (holdsLaw d xs rl).1, .bool (holdsLaw d xs rl).2]) ∧ Ext w w' := by
  obtain ⟨Ac, nc, cc, Al, nl, cl, r, b, p, f, rfl⟩ := kC.shape h
  have hlen := Nat.le_trans (wtL_len kdItem xs) hw
  have a1 := hl.1; have a2 := hl.2.1
  have hwt := hide (fun (k : Nat) (x : ItD) (hk : xs[k]? = some x) => Nat.le_trans (wtL_at kdItem xs k x hk) hw)
  have IC := hide (fun (wq : World) (xq : Ext w wq) => i.IsCode_m wq _ d (kC.rd_ext h xq) hok)
  have II := hide (fun (wq : World) (xq : Ext w wq) => i.AreItems_wk wq A c w.heap.size xs (hl.ext xq (Nat.le_refl _)) xq.size hlen hwt.out)
  have BD := hide (fun (h1 : codeB d = true) (h2 : itemsB xs = true) (h3 : inB 1 8 rl = true) (wq : World) (xq : Ext w wq) => i.ruleHolds_m wq _ d A c w.heap.size xs rl (kC.rd_ext h xq) hok (pgOk h1 h2 hw) (hl.ext xq (Nat.le_refl _)) xq.size (inB_lo h3) (inB_hi h3))
  obtain ⟨F, hF⟩ : ∃ F, Hid (holdsLaw d xs rl = F) := ⟨_, rfl⟩
  rw [hF.out]
  clear h hl hw hwt
  obtain ⟨W0, hW0⟩ : ∃ W0, Hid (W0 = w.alloc (.cells #[.slice Ac nc cc, .slice Al nl cl, .int .i64 r, .int .i64 b, .int .i64 p, .int .i64 f] 26)) := ⟨_, rfl⟩
  have X0 : Hid (Ext w W0) := by rw [hW0.out]; exact Ext.alloc w _
  have B0 : Hid (Blk W0 w.heap.size #[.slice Ac nc cc, .slice Al nl cl, .int .i64 r, .int .i64 b, .int .i64 p, .int .i64 f] 26) := by rw [hW0.out]; exact Blk.new rfl _ _
  obtain ⟨n, hn⟩ : ∃ n, Hid (xs.length = n) := ⟨_, rfl⟩
  rw [hn.out] at a1 hlen II BD ⊢
  go_enter Try.func14, Try.ntmps14
  go_wp2_with fail
  rw [← hW0.out]
  clear hW0
  refine (IC.out W0 X0.out).mono ?_
  rintro e w1 ⟨rfl, x1⟩
  have X1 := hide (X0.out.trans x1)
  have B1 := hide (B0.out.ext x1)
  have cB := B1.out.cell
  clear x1 IC X0 B0
  cases h1 : codeB d
  · have HF : Hid (F = (false, false)) := by show _ = _; rw [← hF.out]; unfold holdsLaw; rw [h1]; rfl
    clear h1 BD
    go_wp2
    go_ret2
    rw [HF.out]
    exact ⟨rfl, X1.out⟩
  · go_wp2_with fail
    refine (II.out w1 X1.out).mono ?_
    rintro e w2 ⟨rfl, x2⟩
    have X2 := hide (X1.out.trans x2)
    have B2 := hide (B1.out.ext x2)
    clear cB
    have cB := B2.out.cell
    clear x2 II B1 X1
    cases h2 : itemsB xs
    · have HF : Hid (F = (false, false)) := by show _ = _; rw [← hF.out]; unfold holdsLaw; rw [h1, h2]; rfl
      clear h1 h2 BD
      go_wp2
      go_ret2
      rw [HF.out]
      exact ⟨rfl, X2.out⟩
    · have WI := hide (i.within_any rl 1 8)
      cases h3 : inB 1 8 rl
      · have HF : Hid (F = (false, false)) := by show _ = _; rw [← hF.out]; unfold holdsLaw; rw [h1, h2]; rw [h3]; rfl
        rw [h3] at WI
        clear h1 h2 h3 BD
        go_wp2_with (go_at_call 38; refine (WI.out _).mono ?_; rintro e w' ⟨rfl, rfl⟩)
        go_ret2
        rw [HF.out]
        exact ⟨rfl, X2.out⟩
      · have HF : Hid (F = (ruleB d xs rl, true)) := by show _ = _; rw [← hF.out]; unfold holdsLaw; rw [h1, h2]; rw [h3]; rfl
        rw [h3] at WI
        have BQ := hide (BD.out h1 h2 h3 w2 X2.out)
        clear h1 h2 h3 BD
        generalize ruleB d xs rl = R at *
        go_wp2_with (go_at_call 38; refine (WI.out _).mono ?_; rintro e w' ⟨rfl, rfl⟩)
        refine BQ.out.mono ?_
        rintro e w3 ⟨rfl, x3⟩
        have X3 := hide (X2.out.trans x3)
        clear x3
        go_wp2
        go_ret2
        rw [HF.out]
        exact ⟨rfl, X3.out⟩
set_option maxRecDepth 100000 in
set_option maxHeartbeats 1000000 in
theorem s.RuleHolds_c (w : World) (v : Value) (d : CoD) (A : Option Addr) (c : Nat) (xs : List ItD) (rl : Int) (h : kC.rd w v d) (hok : kC.ok d) (hl : LR kdItem w w.heap.size A c xs) (hw : wtL kdItem xs ≤ 1048576) :
    Calls Try.prog 15 #[v, .slice A xs.length c, .int .i64 rl] w fun e w' => e = .returned (.tuple #[.bool (holdsLaw d xs rl).1, .bool (holdsLaw d xs rl).2]) ∧ Ext w w' := by
  obtain ⟨Ac, nc, cc, Al, nl, cl, r, b, p, f, rfl⟩ := kC.shape h
  have hlen := Nat.le_trans (wtL_len kdItem xs) hw
  have a1 := hl.1; have a2 := hl.2.1
  have hwt := hide (fun (k : Nat) (x : ItD) (hk : xs[k]? = some x) => Nat.le_trans (wtL_at kdItem xs k x hk) hw)
  have PA := hide (fun (wq : World) (xq : Ext w wq) => s.pgAsked_m wq _ d A c w.heap.size xs (kC.rd_ext h xq) hok (hl.ext xq (Nat.le_refl _)) xq.size hw)
  have BD := hide (fun (h1 : codeB d = true) (h2 : itemsB xs = true) (h3 : inB 1 8 rl = true) (wq : World) (xq : Ext w wq) => s.pgHolds_m wq _ d A c w.heap.size xs rl (kC.rd_ext h xq) hok (pgOk h1 h2 hw) (hl.ext xq (Nat.le_refl _)) xq.size (inB_lo h3) (inB_hi h3))
  obtain ⟨F, hF⟩ : ∃ F, Hid (holdsLaw d xs rl = F) := ⟨_, rfl⟩
  rw [hF.out]
  clear h hl hw hwt
  obtain ⟨W0, hW0⟩ : ∃ W0, Hid (W0 = w.alloc (.cells #[.slice Ac nc cc, .slice Al nl cl, .int .i64 r, .int .i64 b, .int .i64 p, .int .i64 f] 26)) := ⟨_, rfl⟩
  have X0 : Hid (Ext w W0) := by rw [hW0.out]; exact Ext.alloc w _
  have B0 : Hid (Blk W0 w.heap.size #[.slice Ac nc cc, .slice Al nl cl, .int .i64 r, .int .i64 b, .int .i64 p, .int .i64 f] 26) := by rw [hW0.out]; exact Blk.new rfl _ _
  obtain ⟨n, hn⟩ : ∃ n, Hid (xs.length = n) := ⟨_, rfl⟩
  rw [hn.out] at a1 hlen PA BD ⊢
  go_enter Try.func15, Try.ntmps15
  go_wp2_with fail
  rw [← hW0.out]
  clear hW0
  refine (PA.out W0 X0.out).mono ?_
  rintro e w1 ⟨rfl, x1⟩
  have X1 := hide (X0.out.trans x1)
  have B1 := hide (B0.out.ext x1)
  have cB := B1.out.cell
  clear x1 PA X0 B0
  cases h0 : (codeB d && itemsB xs)
  · have HF : Hid (F = (false, false)) := by show _ = _; rw [← hF.out]; unfold holdsLaw; rw [h0]; rfl
    clear h0 BD
    go_wp2
    go_ret2
    rw [HF.out]
    exact ⟨rfl, X1.out⟩
  · have h1 : codeB d = true := by rw [Bool.and_eq_true] at h0; exact h0.1
    have h2 : itemsB xs = true := by rw [Bool.and_eq_true] at h0; exact h0.2
    have WI := hide (s.l1In_any rl 1 8)
    cases h3 : inB 1 8 rl
    · have HF : Hid (F = (false, false)) := by show _ = _; rw [← hF.out]; unfold holdsLaw; rw [h0]; rw [h3]; rfl
      rw [h3] at WI
      clear h0 h1 h2 h3 BD
      go_wp2_with (go_at_call 39; refine (WI.out _).mono ?_; rintro e w' ⟨rfl, rfl⟩)
      go_ret2
      rw [HF.out]
      exact ⟨rfl, X1.out⟩
    · have HF : Hid (F = (ruleB d xs rl, true)) := by show _ = _; rw [← hF.out]; unfold holdsLaw; rw [h0]; rw [h3]; rfl
      rw [h3] at WI
      have BQ := hide (BD.out h1 h2 h3 w1 X1.out)
      clear h0 h1 h2 h3 BD
      generalize ruleB d xs rl = R at *
      go_wp2_with (go_at_call 39; refine (WI.out _).mono ?_; rintro e w' ⟨rfl, rfl⟩)
      refine BQ.out.mono ?_
      rintro e w3 ⟨rfl, x3⟩
      have X3 := hide (X1.out.trans x3)
      clear x3
      go_wp2
      go_ret2
      rw [HF.out]
      exact ⟨rfl, X3.out⟩
set_option maxRecDepth 100000 in
set_option maxHeartbeats 1000000 in
theorem s.BrokenRules_c (w : World) (v : Value) (d : CoD) (A : Option Addr) (c : Nat) (xs : List ItD) (h : kC.rd w v d) (hok : kC.ok d) (hl : LR kdItem w w.heap.size A c xs) (hw : wtL kdItem xs ≤ 1048576) :
    Calls Try.prog 6 #[v, .slice A xs.length c] w fun e w' => ∃ A' c' m, e = .returned (.tuple #[.slice A' m c', .bool (brkF d xs).2]) ∧ OwnI 3 w' w.heap.size A' m c' (brkF d xs).1 ∧ Ext w w' := by
  obtain ⟨Ac, nc, cc, Al, nl, cl, r, b, p, f, rfl⟩ := kC.shape h
  have hlen := Nat.le_trans (wtL_len kdItem xs) hw
  have a1 := hl.1; have a2 := hl.2.1
  have hwt := hide (fun (k : Nat) (x : ItD) (hk : xs[k]? = some x) => Nat.le_trans (wtL_at kdItem xs k x hk) hw)
  have PA := hide (fun (wq : World) (xq : Ext w wq) => s.pgAsked_m wq _ d A c w.heap.size xs (kC.rd_ext h xq) hok (hl.ext xq (Nat.le_refl _)) xq.size hw)
  have BD := hide (fun (h1 : codeB d = true) (h2 : itemsB xs = true) (wq : World) (xq : Ext w wq) => s.pgFaults_m wq _ d A c w.heap.size xs (kC.rd_ext h xq) hok (hl.ext xq (Nat.le_refl _)) xq.size (pgOk h1 h2 hw))
  obtain ⟨F, hF⟩ : ∃ F, Hid (brkF d xs = F) := ⟨_, rfl⟩
  rw [hF.out]
  clear h hl hw hwt
  obtain ⟨W0, hW0⟩ : ∃ W0, Hid (W0 = w.alloc (.cells #[.slice Ac nc cc, .slice Al nl cl, .int .i64 r, .int .i64 b, .int .i64 p, .int .i64 f] 26)) := ⟨_, rfl⟩
  have X0 : Hid (Ext w W0) := by rw [hW0.out]; exact Ext.alloc w _
  have B0 : Hid (Blk W0 w.heap.size #[.slice Ac nc cc, .slice Al nl cl, .int .i64 r, .int .i64 b, .int .i64 p, .int .i64 f] 26) := by rw [hW0.out]; exact Blk.new rfl _ _
  obtain ⟨n, hn⟩ : ∃ n, Hid (xs.length = n) := ⟨_, rfl⟩
  rw [hn.out] at a1 hlen PA BD ⊢
  go_enter Try.func6, Try.ntmps6
  go_wp2_with fail
  rw [← hW0.out]
  clear hW0
  refine (PA.out W0 X0.out).mono ?_
  rintro e w1 ⟨rfl, x1⟩
  have X1 := hide (X0.out.trans x1)
  have B1 := hide (B0.out.ext x1)
  have cB := B1.out.cell
  clear x1 PA X0 B0
  cases h0 : (codeB d && itemsB xs)
  · have HF : Hid (F = ([], false)) := by show _ = _; rw [← hF.out]; unfold brkF; rw [h0]; rfl
    clear h0 BD
    go_wp2
    go_ret2
    rw [HF.out]
    exact ⟨none, 0, 0, rfl, OwnI.nil, X1.out⟩
  · have h1 : codeB d = true := by rw [Bool.and_eq_true] at h0; exact h0.1
    have h2 : itemsB xs = true := by rw [Bool.and_eq_true] at h0; exact h0.2
    have HF : Hid (F = (brokenF d xs, true)) := by show _ = _; rw [← hF.out]; unfold brkF; rw [h0]; rfl
    have BQ := hide (BD.out h1 h2 w1 X1.out)
    clear h0 h1 h2 BD
    go_wp2_with fail
    refine BQ.out.mono ?_
    rintro e w3 ⟨A', c', m, rfl, ho, x3⟩
    have X3 := hide (X1.out.trans x3)
    have O3 := hide (ho.lower X1.out.size)
    clear x3 ho
    go_wp2
    go_ret2
    rw [HF.out]
    exact ⟨A', c', m, rfl, O3.out, X3.out⟩
set_option maxRecDepth 100000 in
set_option maxHeartbeats 1000000 in
theorem i.FamilyCounts_c (w : World) (v : Value) (d : CoD) (A : Option Addr) (c : Nat) (xs : List ItD) (h : kC.rd w v d) (hok : kC.ok d) (hl : LR kdItem w w.heap.size A c xs) (hw : wtL kdItem xs ≤ 1048576) :
    Calls Try.prog 9 #[v, .slice A xs.length c] w fun e w' => ∃ A' n' c', e = .returned (.tuple #[.slice A' n' c', .bool (countLaw d xs).2]) ∧ OwnI 3 w' w.heap.size A' n' c' (countLaw d xs).1 ∧ n' ≤ 5 ∧ Ext w w' := by
  obtain ⟨Ac, nc, cc, Al, nl, cl, r, b, p, f, rfl⟩ := kC.shape h
  have hlen := Nat.le_trans (wtL_len kdItem xs) hw
  have a1 := hl.1; have a2 := hl.2.1
  have hwt := hide (fun (k : Nat) (x : ItD) (hk : xs[k]? = some x) => Nat.le_trans (wtL_at kdItem xs k x hk) hw)
  have IC := hide (fun (wq : World) (xq : Ext w wq) => i.IsCode_m wq _ d (kC.rd_ext h xq) hok)
  have II := hide (fun (wq : World) (xq : Ext w wq) => i.AreItems_wk wq A c w.heap.size xs (hl.ext xq (Nat.le_refl _)) xq.size hlen hwt.out)
  have BD := hide (fun (h1 : codeB d = true) (h2 : itemsB xs = true) (wq : World) (xq : Ext w wq) => i.familyCounts_m wq _ d A c w.heap.size xs (kC.rd_ext h xq) hok (codeB_ok h1) (hl.ext xq (Nat.le_refl _)) xq.size (pgOk h1 h2 hw).n14 (pgOk h1 h2 hw).n3)
  obtain ⟨F, hF⟩ : ∃ F, Hid (countLaw d xs = F) := ⟨_, rfl⟩
  rw [hF.out]
  clear h hl hw hwt
  obtain ⟨W0, hW0⟩ : ∃ W0, Hid (W0 = w.alloc (.cells #[.slice Ac nc cc, .slice Al nl cl, .int .i64 r, .int .i64 b, .int .i64 p, .int .i64 f] 26)) := ⟨_, rfl⟩
  have X0 : Hid (Ext w W0) := by rw [hW0.out]; exact Ext.alloc w _
  have B0 : Hid (Blk W0 w.heap.size #[.slice Ac nc cc, .slice Al nl cl, .int .i64 r, .int .i64 b, .int .i64 p, .int .i64 f] 26) := by rw [hW0.out]; exact Blk.new rfl _ _
  obtain ⟨n, hn⟩ : ∃ n, Hid (xs.length = n) := ⟨_, rfl⟩
  rw [hn.out] at a1 hlen II BD ⊢
  go_enter Try.func9, Try.ntmps9
  go_wp2_with fail
  rw [← hW0.out]
  clear hW0
  refine (IC.out W0 X0.out).mono ?_
  rintro e w1 ⟨rfl, x1⟩
  have X1 := hide (X0.out.trans x1)
  have B1 := hide (B0.out.ext x1)
  have cB := B1.out.cell
  clear x1 IC X0 B0
  cases h1 : codeB d
  · have HF : Hid (F = ([], false)) := by show _ = _; rw [← hF.out]; unfold countLaw; rw [h1]; rfl
    clear h1 BD
    go_wp2
    go_ret2
    rw [HF.out]
    exact ⟨none, 0, 0, rfl, OwnI.nil, by omega, X1.out⟩
  · go_wp2_with fail
    refine (II.out w1 X1.out).mono ?_
    rintro e w2 ⟨rfl, x2⟩
    have X2 := hide (X1.out.trans x2)
    have B2 := hide (B1.out.ext x2)
    clear cB
    have cB := B2.out.cell
    clear x2 II B1 X1
    cases h2 : itemsB xs
    · have HF : Hid (F = ([], false)) := by show _ = _; rw [← hF.out]; unfold countLaw; rw [h1, h2]; rfl
      clear h1 h2 BD
      go_wp2
      go_ret2
      rw [HF.out]
      exact ⟨none, 0, 0, rfl, OwnI.nil, by omega, X2.out⟩
    · have HF : Hid (F = (fcL d xs xs.length, true)) := by show _ = _; rw [← hF.out]; unfold countLaw; rw [h1, h2]; rfl
      have BQ := hide (BD.out h1 h2 w2 X2.out)
      clear h1 h2 BD
      go_wp2_with fail
      refine BQ.out.mono ?_
      rintro e w3 ⟨A', c', rfl, ho, x3⟩
      have X3 := hide (X2.out.trans x3)
      have O3 := hide (ho.lower X2.out.size)
      clear x3 ho
      go_wp2
      go_ret2
      rw [HF.out, hn.out]
      exact ⟨A', 5, c', rfl, O3.out, Nat.le_refl _, X3.out⟩
set_option maxRecDepth 100000 in
set_option maxHeartbeats 1000000 in
theorem s.FamilyCounts_c (w : World) (v : Value) (d : CoD) (A : Option Addr) (c : Nat) (xs : List ItD) (h : kC.rd w v d) (hok : kC.ok d) (hl : LR kdItem w w.heap.size A c xs) (hw : wtL kdItem xs ≤ 1048576) :
    Calls Try.prog 10 #[v, .slice A xs.length c] w fun e w' => ∃ A' n' c', e = .returned (.tuple #[.slice A' n' c', .bool (countLaw d xs).2]) ∧ OwnI 3 w' w.heap.size A' n' c' (countLaw d xs).1 ∧ n' ≤ 5 ∧ Ext w w' := by
  obtain ⟨Ac, nc, cc, Al, nl, cl, r, b, p, f, rfl⟩ := kC.shape h
  have hlen := Nat.le_trans (wtL_len kdItem xs) hw
  have a1 := hl.1; have a2 := hl.2.1
  have hwt := hide (fun (k : Nat) (x : ItD) (hk : xs[k]? = some x) => Nat.le_trans (wtL_at kdItem xs k x hk) hw)
  have PA := hide (fun (wq : World) (xq : Ext w wq) => s.pgAsked_m wq _ d A c w.heap.size xs (kC.rd_ext h xq) hok (hl.ext xq (Nat.le_refl _)) xq.size hw)
  have BD := hide (fun (h1 : codeB d = true) (h2 : itemsB xs = true) (wq : World) (xq : Ext w wq) => s.pgCounts_m wq _ d A c w.heap.size xs (kC.rd_ext h xq) hok (codeB_ok h1) (hl.ext xq (Nat.le_refl _)) xq.size (pgOk h1 h2 hw).n14 (pgOk h1 h2 hw).n3)
  obtain ⟨F, hF⟩ : ∃ F, Hid (countLaw d xs = F) := ⟨_, rfl⟩
  rw [hF.out]
  clear h hl hw hwt
  obtain ⟨W0, hW0⟩ : ∃ W0, Hid (W0 = w.alloc (.cells #[.slice Ac nc cc, .slice Al nl cl, .int .i64 r, .int .i64 b, .int .i64 p, .int .i64 f] 26)) := ⟨_, rfl⟩
  have X0 : Hid (Ext w W0) := by rw [hW0.out]; exact Ext.alloc w _
  have B0 : Hid (Blk W0 w.heap.size #[.slice Ac nc cc, .slice Al nl cl, .int .i64 r, .int .i64 b, .int .i64 p, .int .i64 f] 26) := by rw [hW0.out]; exact Blk.new rfl _ _
  obtain ⟨n, hn⟩ : ∃ n, Hid (xs.length = n) := ⟨_, rfl⟩
  rw [hn.out] at a1 hlen PA BD ⊢
  go_enter Try.func10, Try.ntmps10
  go_wp2_with fail
  rw [← hW0.out]
  clear hW0
  refine (PA.out W0 X0.out).mono ?_
  rintro e w1 ⟨rfl, x1⟩
  have X1 := hide (X0.out.trans x1)
  have B1 := hide (B0.out.ext x1)
  have cB := B1.out.cell
  clear x1 PA X0 B0
  cases h0 : (codeB d && itemsB xs)
  · have HF : Hid (F = ([], false)) := by show _ = _; rw [← hF.out]; unfold countLaw; rw [h0]; rfl
    clear h0 BD
    go_wp2
    go_ret2
    rw [HF.out]
    exact ⟨none, 0, 0, rfl, OwnI.nil, by omega, X1.out⟩
  · have h1 : codeB d = true := by rw [Bool.and_eq_true] at h0; exact h0.1
    have h2 : itemsB xs = true := by rw [Bool.and_eq_true] at h0; exact h0.2
    have HF : Hid (F = (fcL d xs xs.length, true)) := by show _ = _; rw [← hF.out]; unfold countLaw; rw [h0]; rfl
    have BQ := hide (BD.out h1 h2 w1 X1.out)
    clear h0 h1 h2 BD
    go_wp2_with fail
    refine BQ.out.mono ?_
    rintro e w3 ⟨A', c', rfl, ho, x3⟩
    have X3 := hide (X1.out.trans x3)
    have O3 := hide (ho.lower X1.out.size)
    clear x3 ho
    go_wp2
    go_ret2
    rw [HF.out, hn.out]
    exact ⟨A', 5, c', rfl, O3.out, Nat.le_refl _, X3.out⟩
end Go.Proofs.Ytijgndfhfggipaa
