/- What the laws on bases call: the program's and the reference's functions over a code and a list. -/
import Derived.Test.YtcngiipdffjkfaaRL
import Derived.Test.YtcngiipdffjkfaaRX
namespace Go.Proofs.Ytcngiipdffjkfaa
open Go.RowKit Go.Sort
set_option linter.unusedVariables false

def goodB (d : CoD) (xs : List ItD) : Bool := codeB d && itemsB xs && knownB d.1 xs
def basesLaw (d : CoD) (xs : List ItD) : List Int × Bool := if goodB d xs then (basesF d xs, true) else ([], false)
def knowsLaw (d : CoD) (xs : List ItD) : Bool × Bool := if codeB d && itemsB xs then (knownB d.1 xs, true) else (false, false)
theorem goodB_code {d : CoD} {xs : List ItD} (h : goodB d xs = true) : CodeOk d := by
  simp only [goodB, Bool.and_eq_true] at h
  exact codeB_ok h.1.1
theorem goodB_ls {d : CoD} {xs : List ItD} (h : goodB d xs = true) : LsOk d xs := by
  simp only [goodB, Bool.and_eq_true] at h
  exact lsOk h.1.2 h.2
set_option maxRecDepth 100000 in
set_option maxHeartbeats 1000000 in
theorem i.BaseValues_c (w : World) (v : Value) (d : CoD) (A : Option Addr) (c : Nat) (xs : List ItD) (h : kC.rd w v d) (hok : kC.ok d) (hl : LR kdItem w w.heap.size A c xs) (hw : wtL kdItem xs ≤ 1048576) :
    Calls Try.prog 6 #[v, .slice A xs.length c] w fun e w' => ∃ A' n' c', e = .returned (.tuple #[.slice A' n' c', .bool (basesLaw d xs).2]) ∧ SlI w' w'.heap.size A' n' (basesLaw d xs).1 ∧ n' ≤ 14 ∧ n' ≤ c' ∧ c' ≤ 9223372036854775807 ∧ Ext w w' := by
  obtain ⟨Ac, nc, cc, Al, nl, cl, r, b, p, f, rfl⟩ := kC.shape h
  have hlen := Nat.le_trans (wtL_len kdItem xs) hw
  have a1 := hl.1; have a2 := hl.2.1
  have GD := hide (fun (wq : World) (xq : Ext w wq) => i.areKnown_m wq _ d A c w.heap.size xs (kC.rd_ext h xq) hok (hl.ext xq (Nat.le_refl _)) xq.size hlen (fun k x hk => Nat.le_trans (wtL_at kdItem xs k x hk) hw))
  have BV := hide (fun (hg : goodB d xs = true) (wq : World) (xq : Ext w wq) => i.baseValues_m wq _ d A c w.heap.size xs (kC.rd_ext h xq) hok (goodB_code hg) (hl.ext xq (Nat.le_refl _)) xq.size (goodB_ls hg))
  have LN := hide (fun (hg : goodB d xs = true) => (goodB_ls hg).n)
  obtain ⟨F, hF⟩ : ∃ F, Hid (basesLaw d xs = F) := ⟨_, rfl⟩
  rw [hF.out]
  clear h hl hw
  obtain ⟨W0, hW0⟩ : ∃ W0, Hid (W0 = w.alloc (.cells #[.slice Ac nc cc, .slice Al nl cl, .int .i64 r, .int .i64 b, .int .i64 p, .int .i64 f] 27)) := ⟨_, rfl⟩
  have X0 : Hid (Ext w W0) := by rw [hW0.out]; exact Ext.alloc w _
  have B0 : Hid (Blk W0 w.heap.size #[.slice Ac nc cc, .slice Al nl cl, .int .i64 r, .int .i64 b, .int .i64 p, .int .i64 f] 27) := by rw [hW0.out]; exact Blk.new rfl _ _
  obtain ⟨n, hn⟩ : ∃ n, Hid (xs.length = n) := ⟨_, rfl⟩
  rw [hn.out] at a1 hlen GD BV LN ⊢
  go_enter Try.func6, Try.ntmps6
  go_wp2_with fail
  rw [← hW0.out]
  clear hW0
  refine (GD.out W0 X0.out).mono ?_
  rintro e w1 ⟨rfl, x1⟩
  have X1 := hide (X0.out.trans x1)
  have B1 := hide (B0.out.ext x1)
  have cB := B1.out.cell
  clear x1 GD X0 B0
  have hgb : goodB d xs = (codeB d && itemsB xs && knownB d.1 xs) := rfl
  rw [← hgb]
  cases hg : goodB d xs
  · have HF : Hid (F = ([], false)) := by show _ = _; rw [← hF.out]; simp [basesLaw, hg]
    clear hg hgb
    go_wp2
    go_ret2
    rw [HF.out]
    exact ⟨none, 0, 0, rfl, Sl.nil, by omega, by omega, by omega, X1.out⟩
  · have HF : Hid (F = (basesF d xs, true)) := by show _ = _; rw [← hF.out]; simp [basesLaw, hg]
    have h14 := LN.out hg
    have BQ := hide (BV.out hg w1 X1.out)
    clear hg hgb BV LN
    go_wp2_with fail
    refine BQ.out.mono ?_
    rintro e w2 ⟨A9, c9, rfl, o9, x2⟩
    have k1 := o9.capn
    have k2 := o9.capm
    have S9 := hide o9.sl
    have X2 := hide (X1.out.trans x2)
    clear o9 x2
    go_wp2
    go_ret2
    rw [HF.out]
    exact ⟨A9, n, c9, rfl, S9.out, h14, k1, k2, X2.out⟩

set_option maxRecDepth 100000 in
set_option maxHeartbeats 1000000 in
theorem s.BaseValues_c (w : World) (v : Value) (d : CoD) (A : Option Addr) (c : Nat) (xs : List ItD) (h : kC.rd w v d) (hok : kC.ok d) (hl : LR kdItem w w.heap.size A c xs) (hw : wtL kdItem xs ≤ 1048576) :
    Calls Try.prog 7 #[v, .slice A xs.length c] w fun e w' => ∃ A' n' c', e = .returned (.tuple #[.slice A' n' c', .bool (basesLaw d xs).2]) ∧ SlI w' w'.heap.size A' n' (basesLaw d xs).1 ∧ n' ≤ 14 ∧ n' ≤ c' ∧ c' ≤ 9223372036854775807 ∧ Ext w w' := by
  obtain ⟨Ac, nc, cc, Al, nl, cl, r, b, p, f, rfl⟩ := kC.shape h
  have hlen := Nat.le_trans (wtL_len kdItem xs) hw
  have a1 := hl.1; have a2 := hl.2.1
  have GD := hide (fun (wq : World) (xq : Ext w wq) => s.bsGood_m wq _ d A c w.heap.size xs (kC.rd_ext h xq) hok (hl.ext xq (Nat.le_refl _)) xq.size hlen (fun k x hk => Nat.le_trans (wtL_at kdItem xs k x hk) hw))
  have BV := hide (fun (hg : goodB d xs = true) (wq : World) (xq : Ext w wq) => s.bsAll_m wq _ d A c w.heap.size xs (kC.rd_ext h xq) hok (goodB_code hg) (hl.ext xq (Nat.le_refl _)) xq.size (goodB_ls hg))
  have LN := hide (fun (hg : goodB d xs = true) => (goodB_ls hg).n)
  obtain ⟨F, hF⟩ : ∃ F, Hid (basesLaw d xs = F) := ⟨_, rfl⟩
  rw [hF.out]
  clear h hl hw
  obtain ⟨W0, hW0⟩ : ∃ W0, Hid (W0 = w.alloc (.cells #[.slice Ac nc cc, .slice Al nl cl, .int .i64 r, .int .i64 b, .int .i64 p, .int .i64 f] 27)) := ⟨_, rfl⟩
  have X0 : Hid (Ext w W0) := by rw [hW0.out]; exact Ext.alloc w _
  have B0 : Hid (Blk W0 w.heap.size #[.slice Ac nc cc, .slice Al nl cl, .int .i64 r, .int .i64 b, .int .i64 p, .int .i64 f] 27) := by rw [hW0.out]; exact Blk.new rfl _ _
  obtain ⟨n, hn⟩ : ∃ n, Hid (xs.length = n) := ⟨_, rfl⟩
  rw [hn.out] at a1 hlen GD BV LN ⊢
  go_enter Try.func7, Try.ntmps7
  go_wp2_with fail
  rw [← hW0.out]
  clear hW0
  refine (GD.out W0 X0.out).mono ?_
  rintro e w1 ⟨rfl, x1⟩
  have X1 := hide (X0.out.trans x1)
  have B1 := hide (B0.out.ext x1)
  have cB := B1.out.cell
  clear x1 GD X0 B0
  have hgb : goodB d xs = (codeB d && itemsB xs && knownB d.1 xs) := rfl
  rw [← hgb]
  cases hg : goodB d xs
  · have HF : Hid (F = ([], false)) := by show _ = _; rw [← hF.out]; simp [basesLaw, hg]
    clear hg hgb
    go_wp2
    go_ret2
    rw [HF.out]
    exact ⟨none, 0, 0, rfl, Sl.nil, by omega, by omega, by omega, X1.out⟩
  · have HF : Hid (F = (basesF d xs, true)) := by show _ = _; rw [← hF.out]; simp [basesLaw, hg]
    have h14 := LN.out hg
    have BQ := hide (BV.out hg w1 X1.out)
    clear hg hgb BV LN
    go_wp2_with fail
    refine BQ.out.mono ?_
    rintro e w2 ⟨A9, c9, rfl, o9, x2⟩
    have k1 := o9.capn
    have k2 := o9.capm
    have S9 := hide o9.sl
    have X2 := hide (X1.out.trans x2)
    clear o9 x2
    go_wp2
    go_ret2
    rw [HF.out]
    exact ⟨A9, n, c9, rfl, S9.out, h14, k1, k2, X2.out⟩
set_option maxRecDepth 100000 in
set_option maxHeartbeats 1000000 in
theorem i.KnowsItems_c (w : World) (v : Value) (d : CoD) (A : Option Addr) (c : Nat) (xs : List ItD) (h : kC.rd w v d) (hok : kC.ok d) (hl : LR kdItem w w.heap.size A c xs) (hw : wtL kdItem xs ≤ 1048576) :
    Calls Try.prog 8 #[v, .slice A xs.length c] w fun e w' => e = .returned (.tuple #[.bool (knowsLaw d xs).1, .bool (knowsLaw d xs).2]) ∧ Ext w w' := by
  obtain ⟨Ac, nc, cc, Al, nl, cl, r, b, p, f, rfl⟩ := kC.shape h
  have hlen := Nat.le_trans (wtL_len kdItem xs) hw
  have a1 := hl.1; have a2 := hl.2.1
  have hwt := hide (fun (k : Nat) (x : ItD) (hk : xs[k]? = some x) => Nat.le_trans (wtL_at kdItem xs k x hk) hw)
  have IC := hide (fun (wq : World) (xq : Ext w wq) => i.IsCode_m wq _ d (kC.rd_ext h xq) hok)
  have II := hide (fun (wq : World) (xq : Ext w wq) => i.AreItems_wk wq A c w.heap.size xs (hl.ext xq (Nat.le_refl _)) xq.size hlen hwt.out)
  have IK := hide (fun (wq : World) (xq : Ext w wq) => i.isKnown_m wq _ d A c w.heap.size xs (kC.rd_ext h xq) hok (hl.ext xq (Nat.le_refl _)) xq.size hlen hwt.out)
  obtain ⟨F, hF⟩ : ∃ F, Hid (knowsLaw d xs = F) := ⟨_, rfl⟩
  rw [hF.out]
  clear h hl hw hwt
  obtain ⟨W0, hW0⟩ : ∃ W0, Hid (W0 = w.alloc (.cells #[.slice Ac nc cc, .slice Al nl cl, .int .i64 r, .int .i64 b, .int .i64 p, .int .i64 f] 27)) := ⟨_, rfl⟩
  have X0 : Hid (Ext w W0) := by rw [hW0.out]; exact Ext.alloc w _
  have B0 : Hid (Blk W0 w.heap.size #[.slice Ac nc cc, .slice Al nl cl, .int .i64 r, .int .i64 b, .int .i64 p, .int .i64 f] 27) := by rw [hW0.out]; exact Blk.new rfl _ _
  obtain ⟨n, hn⟩ : ∃ n, Hid (xs.length = n) := ⟨_, rfl⟩
  rw [hn.out] at a1 hlen II IK ⊢
  go_enter Try.func8, Try.ntmps8
  go_wp2_with fail
  rw [← hW0.out]
  clear hW0
  refine (IC.out W0 X0.out).mono ?_
  rintro e w1 ⟨rfl, x1⟩
  have X1 := hide (X0.out.trans x1)
  have B1 := hide (B0.out.ext x1)
  have cB := B1.out.cell
  clear x1 IC X0 B0
  cases h1 : codeB d
  · have HF : Hid (F = (false, false)) := by show _ = _; rw [← hF.out]; simp [knowsLaw, h1]
    clear h1
    go_wp2
    go_ret2
    rw [HF.out]
    exact ⟨rfl, X1.out⟩
  · go_wp2_with fail
    refine (II.out w1 X1.out).mono ?_
    rintro e w2 ⟨rfl, x2⟩
    have X2 := hide (X1.out.trans x2)
    have B2 := hide (B1.out.ext x2)
    clear cB
    have cB := B2.out.cell
    clear x2 II B1 X1
    cases h2 : itemsB xs
    · have HF : Hid (F = (false, false)) := by show _ = _; rw [← hF.out]; simp [knowsLaw, h2]
      clear h1 h2
      go_wp2
      go_ret2
      rw [HF.out]
      exact ⟨rfl, X2.out⟩
    · have HF : Hid (F = (knownB d.1 xs, true)) := by show _ = _; rw [← hF.out]; simp [knowsLaw, h1, h2]
      clear h1 h2
      go_wp2_with fail
      refine (IK.out w2 X2.out).mono ?_
      rintro e w3 ⟨rfl, x3⟩
      have X3 := hide (X2.out.trans x3)
      clear x3
      go_wp2
      go_ret2
      rw [HF.out]
      exact ⟨rfl, X3.out⟩

set_option maxRecDepth 100000 in
set_option maxHeartbeats 1000000 in
theorem s.KnowsItems_c (w : World) (v : Value) (d : CoD) (A : Option Addr) (c : Nat) (xs : List ItD) (h : kC.rd w v d) (hok : kC.ok d) (hl : LR kdItem w w.heap.size A c xs) (hw : wtL kdItem xs ≤ 1048576) :
    Calls Try.prog 9 #[v, .slice A xs.length c] w fun e w' => e = .returned (.tuple #[.bool (knowsLaw d xs).1, .bool (knowsLaw d xs).2]) ∧ Ext w w' := by
  obtain ⟨Ac, nc, cc, Al, nl, cl, r, b, p, f, rfl⟩ := kC.shape h
  have hlen := Nat.le_trans (wtL_len kdItem xs) hw
  have a1 := hl.1; have a2 := hl.2.1
  have hwt := hide (fun (k : Nat) (x : ItD) (hk : xs[k]? = some x) => Nat.le_trans (wtL_at kdItem xs k x hk) hw)
  have IC := hide (fun (wq : World) (xq : Ext w wq) => s.cdGood_m wq _ d (kC.rd_ext h xq) hok)
  have II := hide (fun (wq : World) (xq : Ext w wq) => s.itList_wk wq A c w.heap.size xs (hl.ext xq (Nat.le_refl _)) xq.size hlen hwt.out)
  have IK := hide (fun (wq : World) (xq : Ext w wq) => s.bsKnows_m wq _ d A c w.heap.size xs (kC.rd_ext h xq) hok (hl.ext xq (Nat.le_refl _)) xq.size hlen hwt.out)
  obtain ⟨F, hF⟩ : ∃ F, Hid (knowsLaw d xs = F) := ⟨_, rfl⟩
  rw [hF.out]
  clear h hl hw hwt
  obtain ⟨W0, hW0⟩ : ∃ W0, Hid (W0 = w.alloc (.cells #[.slice Ac nc cc, .slice Al nl cl, .int .i64 r, .int .i64 b, .int .i64 p, .int .i64 f] 27)) := ⟨_, rfl⟩
  have X0 : Hid (Ext w W0) := by rw [hW0.out]; exact Ext.alloc w _
  have B0 : Hid (Blk W0 w.heap.size #[.slice Ac nc cc, .slice Al nl cl, .int .i64 r, .int .i64 b, .int .i64 p, .int .i64 f] 27) := by rw [hW0.out]; exact Blk.new rfl _ _
  obtain ⟨n, hn⟩ : ∃ n, Hid (xs.length = n) := ⟨_, rfl⟩
  rw [hn.out] at a1 hlen II IK ⊢
  go_enter Try.func9, Try.ntmps9
  go_wp2_with fail
  rw [← hW0.out]
  clear hW0
  refine (IC.out W0 X0.out).mono ?_
  rintro e w1 ⟨rfl, x1⟩
  have X1 := hide (X0.out.trans x1)
  have B1 := hide (B0.out.ext x1)
  have cB := B1.out.cell
  clear x1 IC X0 B0
  cases h1 : codeB d
  · have HF : Hid (F = (false, false)) := by show _ = _; rw [← hF.out]; simp [knowsLaw, h1]
    clear h1
    go_wp2
    go_ret2
    rw [HF.out]
    exact ⟨rfl, X1.out⟩
  · go_wp2_with fail
    refine (II.out w1 X1.out).mono ?_
    rintro e w2 ⟨rfl, x2⟩
    have X2 := hide (X1.out.trans x2)
    have B2 := hide (B1.out.ext x2)
    clear cB
    have cB := B2.out.cell
    clear x2 II B1 X1
    cases h2 : itemsB xs
    · have HF : Hid (F = (false, false)) := by show _ = _; rw [← hF.out]; simp [knowsLaw, h2]
      clear h1 h2
      go_wp2
      go_ret2
      rw [HF.out]
      exact ⟨rfl, X2.out⟩
    · have HF : Hid (F = (knownB d.1 xs, true)) := by show _ = _; rw [← hF.out]; simp [knowsLaw, h1, h2]
      clear h1 h2
      go_wp2_with fail
      refine (IK.out w2 X2.out).mono ?_
      rintro e w3 ⟨rfl, x3⟩
      have X3 := hide (X2.out.trans x3)
      clear x3
      go_wp2
      go_ret2
      rw [HF.out]
      exact ⟨rfl, X3.out⟩
end Go.Proofs.Ytcngiipdffjkfaa
