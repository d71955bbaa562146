/- What the laws on bases call: the reference's worth of an element, sums, lists compared. -/
import Derived.Test.YtcngiipdffjkfaaEP
namespace Go.Proofs.Ytcngiipdffjkfaa
open Go.RowKit Go.Sort
set_option linter.unusedVariables false

set_option maxRecDepth 100000 in
set_option maxHeartbeats 1000000 in
theorem s.bsWorth_neg (w : World) (v : Value) (d : CoD) (nm : List UInt8) (mark : Int) (h : kC.rd w v d) (hok : kC.ok d) (hf : findF d.1 nm < 0) :
    Calls Try.prog 54 #[v, .string (bs nm), .int .i64 mark] w fun e w' => e = .returned (.int .i64 (-1)) ∧ Ext w w' := by
  have FE := hide (fun (wq : World) (xq : Ext w wq) => s.cdFind_m wq v d nm (kC.rd_ext h xq) hok)
  obtain ⟨Ac, nc, cc, Al, nl, cl, r, b, p, f, rfl⟩ := kC.shape h
  clear h
  generalize findF d.1 nm = z at *
  obtain ⟨W0, hW0⟩ : ∃ W0, Hid (W0 = w.alloc (.cells #[.slice Ac nc cc, .slice Al nl cl, .int .i64 r, .int .i64 b, .int .i64 p, .int .i64 f] 27)) := ⟨_, rfl⟩
  have X0 : Hid (Ext w W0) := by rw [hW0.out]; exact Ext.alloc w _
  go_enter Try.func54, Try.ntmps54
  go_wp2_with fail
  rw [← hW0.out]
  clear hW0
  refine (FE.out W0 X0.out).mono ?_
  rintro e w1 ⟨rfl, x1⟩
  have X1 := hide (X0.out.trans x1)
  clear x1
  go_wp2
  go_ret
  exact ⟨rfl, X1.out⟩
theorem worthN_nn {d : CoD} (hd : CodeOk d) (nm : List UInt8) (mark : Int) : 0 ≤ worthN d nm mark := (worthN_bd hd nm mark).1
set_option maxRecDepth 100000 in
set_option maxHeartbeats 2000000 in
theorem s.ElementWorth_c (w : World) (v : Value) (d : CoD) (nm : List UInt8) (mark : Int) (h : kC.rd w v d) (hok : kC.ok d) :
    Calls Try.prog 23 #[v, .string (bs nm), .int .i64 mark] w fun e w' => e = .returned (.tuple #[.int .i64 (elW d nm mark).1, .bool (elW d nm mark).2]) ∧ Ext w w' := by
  obtain ⟨Ac, nc, cc, Al, nl, cl, r, b, p, f, rfl⟩ := kC.shape h
  have IC := hide (fun (wq : World) (xq : Ext w wq) => s.cdGood_m wq _ d (kC.rd_ext h xq) hok)
  have WN := hide (fun (hf : findF d.1 nm < 0) (wq : World) (xq : Ext w wq) => s.bsWorth_neg wq _ d nm mark (kC.rd_ext h xq) hok hf)
  have WP := hide (fun (hd : CodeOk d) (hf : 0 ≤ findF d.1 nm) (wq : World) (xq : Ext w wq) => s.bsWorth_m wq _ d nm mark (kC.rd_ext h xq) hok hd hf)
  obtain ⟨F, hF⟩ : ∃ F, Hid (elW d nm mark = F) := ⟨_, rfl⟩
  rw [hF.out]
  clear h
  obtain ⟨z, hz⟩ : ∃ z, Hid (findF d.1 nm = z) := ⟨_, rfl⟩
  rw [hz.out] at WN WP
  obtain ⟨W0, hW0⟩ : ∃ W0, Hid (W0 = w.alloc (.cells #[.slice Ac nc cc, .slice Al nl cl, .int .i64 r, .int .i64 b, .int .i64 p, .int .i64 f] 27)) := ⟨_, rfl⟩
  have X0 : Hid (Ext w W0) := by rw [hW0.out]; exact Ext.alloc w _
  have B0 : Hid (Blk W0 w.heap.size #[.slice Ac nc cc, .slice Al nl cl, .int .i64 r, .int .i64 b, .int .i64 p, .int .i64 f] 27) := by rw [hW0.out]; exact Blk.new rfl _ _
  go_enter Try.func23, Try.ntmps23
  go_wp2_with fail
  rw [← hW0.out]
  clear hW0
  refine (IC.out W0 X0.out).mono ?_
  rintro e w1 ⟨rfl, x1⟩
  have X1 := hide (X0.out.trans x1)
  have B1 := hide (B0.out.ext x1)
  have cB := B1.out.cell
  clear x1 IC X0 B0
  cases h1 : codeB d
  · have HF : Hid (F = (0, false)) := by show _ = _; rw [← hF.out]; simp [elW, h1]
    clear h1
    go_wp2
    go_ret2
    rw [HF.out]
    exact ⟨rfl, X1.out⟩
  have HC := hide (codeB_ok h1)
  cases h2 : inB 0 3 mark
  · have HF : Hid (F = (0, false)) := by show _ = _; rw [← hF.out]; simp [elW, h2]
    have IM := hide (s.l1In_any mark 0 3)
    rw [h2] at IM
    clear h1 h2
    go_wp2_with (go_at_call 53; refine (IM.out _).mono ?_; rintro e w' ⟨rfl, rfl⟩)
    go_ret2
    rw [HF.out]
    exact ⟨rfl, X1.out⟩
  have IM := hide (s.l1In_any mark 0 3)
  rw [h2] at IM
  by_cases hlt : z < 0
  · have HF : Hid (F = (0, false)) := by
      have : ¬ 0 ≤ z := by omega
      show _ = _; rw [← hF.out]; simp [elW, hz.out, this]
    have WQ := hide (WN.out hlt)
    clear h1 h2 WN WP hlt
    go_wp2_with (first | (go_at_call 53; refine (IM.out _).mono ?_; rintro e w' ⟨rfl, rfl⟩) | (go_at_call 54; refine (WQ.out _ X1.out).mono ?_; rintro e w2 ⟨rfl, x2⟩; have X2 := hide (X1.out.trans x2); clear x2))
    go_ret2
    rw [HF.out]
    exact ⟨rfl, X2.out⟩
  · have h0 : 0 ≤ z := by omega
    have HF : Hid (F = (worthN d nm mark, true)) := by show _ = _; rw [← hF.out]; simp [elW, h1, h2, hz.out, h0]
    have nn := worthN_nn HC.out nm mark
    have WQ := hide (WP.out HC.out h0)
    clear h1 h2 WN WP hlt h0 HC
    generalize worthN d nm mark = R at *
    have nl : ¬ R < 0 := by omega
    go_wp2_with (first | (go_at_call 53; refine (IM.out _).mono ?_; rintro e w' ⟨rfl, rfl⟩) | fail)
    refine (WQ.out w1 X1.out).mono ?_
    rintro e w2 ⟨rfl, x2⟩
    have X2 := hide (X1.out.trans x2)
    have B2 := hide (B1.out.ext x2)
    clear cB
    have cB := B2.out.cell
    clear x2
    go_wp2_with fail
    refine (WQ.out w2 X2.out).mono ?_
    rintro e w3 ⟨rfl, x3⟩
    have X3 := hide (X2.out.trans x3)
    clear x3 cB
    go_wp2
    go_ret2
    rw [HF.out]
    exact ⟨rfl, X3.out⟩

def pbaseLaw (d : CoD) (xs : List ItD) : Int × Bool := if goodB d xs then ((basesF d xs).sum, true) else (0, false)
set_option maxRecDepth 100000 in
set_option maxHeartbeats 1000000 in
theorem i.ProgrammeBase_c (w : World) (v : Value) (d : CoD) (A : Option Addr) (c : Nat) (xs : List ItD) (h : kC.rd w v d) (hok : kC.ok d) (hl : LR kdItem w w.heap.size A c xs) (hw : wtL kdItem xs ≤ 1048576) :
    Calls Try.prog 11 #[v, .slice A xs.length c] w fun e w' => e = .returned (.tuple #[.int .i64 (pbaseLaw d xs).1, .bool (pbaseLaw d xs).2]) ∧ Ext w w' := by
  obtain ⟨Ac, nc, cc, Al, nl, cl, r, b, p, f, rfl⟩ := kC.shape h
  have hlen := Nat.le_trans (wtL_len kdItem xs) hw
  have a1 := hl.1; have a2 := hl.2.1
  have GD := hide (fun (wq : World) (xq : Ext w wq) => i.areKnown_m wq _ d A c w.heap.size xs (kC.rd_ext h xq) hok (hl.ext xq (Nat.le_refl _)) xq.size hlen (fun k x hk => Nat.le_trans (wtL_at kdItem xs k x hk) hw))
  have BV := hide (fun (hg : goodB d xs = true) (wq : World) (xq : Ext w wq) => i.baseValues_m wq _ d A c w.heap.size xs (kC.rd_ext h xq) hok (goodB_code hg) (hl.ext xq (Nat.le_refl _)) xq.size (goodB_ls hg))
  have LN := hide (fun (hg : goodB d xs = true) => (goodB_ls hg).n)
  have SM := hide (fun (hg : goodB d xs = true) => (fun z hz => by have := basesN_bd (goodB_code hg) (goodB_ls hg) xs.length z hz; omega : Small (basesF d xs)))
  obtain ⟨F, hF⟩ : ∃ F, Hid (pbaseLaw d xs = F) := ⟨_, rfl⟩
  rw [hF.out]
  clear h hl hw
  obtain ⟨W0, hW0⟩ : ∃ W0, Hid (W0 = w.alloc (.cells #[.slice Ac nc cc, .slice Al nl cl, .int .i64 r, .int .i64 b, .int .i64 p, .int .i64 f] 27)) := ⟨_, rfl⟩
  have X0 : Hid (Ext w W0) := by rw [hW0.out]; exact Ext.alloc w _
  have B0 : Hid (Blk W0 w.heap.size #[.slice Ac nc cc, .slice Al nl cl, .int .i64 r, .int .i64 b, .int .i64 p, .int .i64 f] 27) := by rw [hW0.out]; exact Blk.new rfl _ _
  obtain ⟨n, hn⟩ : ∃ n, Hid (xs.length = n) := ⟨_, rfl⟩
  rw [hn.out] at a1 hlen GD BV LN ⊢
  go_enter Try.func11, Try.ntmps11
  go_wp2_with fail
  rw [← hW0.out]
  clear hW0
  refine (GD.out W0 X0.out).mono ?_
  rintro e w1 ⟨rfl, x1⟩
  have X1 := hide (X0.out.trans x1)
  have B1 := hide (B0.out.ext x1)
  have cB := B1.out.cell
  clear x1 GD X0 B0
  have hgb : goodB d xs = (codeB d && itemsB xs && knownB d.1 xs) := rfl
  rw [← hgb]
  cases hg : goodB d xs
  · have HF : Hid (F = (0, false)) := by show _ = _; rw [← hF.out]; simp [pbaseLaw, hg]
    clear hg hgb
    go_wp2
    go_ret2
    rw [HF.out]
    exact ⟨rfl, X1.out⟩
  · have HF : Hid (F = ((basesF d xs).sum, true)) := by show _ = _; rw [← hF.out]; simp [pbaseLaw, hg]
    have h14 := LN.out hg
    have BQ := hide (BV.out hg w1 X1.out)
    have SQ := hide (SM.out hg)
    clear hg hgb BV LN SM
    go_wp2_with fail
    refine BQ.out.mono ?_
    rintro e w2 ⟨A9, c9, rfl, o9, x2⟩
    have SU := hide (i.sumInts_any A9 n c9 w2.heap.size _ w2 o9.sl (by omega) SQ.out)
    have X2 := hide (X1.out.trans x2)
    clear o9 x2 cB
    go_wp2_with (go_at_call 35; refine SU.out.mono ?_; rintro e w3 ⟨rfl, rfl⟩)
    go_ret2
    rw [HF.out]
    exact ⟨rfl, X2.out⟩
end Go.Proofs.Ytcngiipdffjkfaa
