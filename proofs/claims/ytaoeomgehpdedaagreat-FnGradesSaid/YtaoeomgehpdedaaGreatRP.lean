/- Scores of a list: ItemSum, BestItem. -/
import Derived.Test.YtaoeomgehpdedaaGreatRO
namespace Go.Proofs.YtaoeomgehpdedaaGreat
open Go.RowKit Go.Sort
set_option linter.unusedVariables false

def scoresN (d : CoD) (xs : List ItD) (m : MD) (k : Nat) : List Int := (List.range k).map (scoreF d xs m)
theorem scoresN_succ (d : CoD) (xs : List ItD) (m : MD) (k : Nat) : scoresN d xs m (k + 1) = scoresN d xs m k ++ [scoreF d xs m k] := by simp [scoresN, List.range_succ]
theorem scoresN_len (d : CoD) (xs : List ItD) (m : MD) (k : Nat) : (scoresN d xs m k).length = k := by simp [scoresN]
theorem scoresN_at (d : CoD) (xs : List ItD) (m : MD) {k n : Nat} (h : k < n) : (scoresN d xs m n).getD k 0 = scoreF d xs m k := by
  unfold scoresN
  rw [List.getD_eq_getElem?_getD, List.getElem?_map, List.getElem?_range h]
  rfl
theorem scoresN_small {d : CoD} {xs : List ItD} {m : MD} (h : JOk d xs m) {n : Nat} (hn : n ≤ xs.length) : Small (scoresN d xs m n) := by
  intro z hz
  obtain ⟨i, hi, rfl⟩ := List.mem_map.1 hz
  have := scoreF_bd h (k := i) (by have := List.mem_range.1 hi; omega)
  omega
def itemSumF (d : CoD) (xs : List ItD) (m : MD) : Int × Bool := if judgedB d xs m then ((scoresN d xs m xs.length).sum, true) else (0, false)
def bestN (d : CoD) (xs : List ItD) (m : MD) : Nat → Nat
  | 0 => 0
  | k + 1 => if scoreF d xs m (bestN d xs m k) < scoreF d xs m k then k else bestN d xs m k
theorem bestN_le (d : CoD) (xs : List ItD) (m : MD) (k : Nat) : bestN d xs m k ≤ k := by
  induction k with
  | zero => exact Nat.le_refl _
  | succ k ih => unfold bestN; split <;> omega
theorem bestN_lt (d : CoD) (xs : List ItD) (m : MD) {k n : Nat} (hk : k ≤ n) (hn : 0 < n) : bestN d xs m k < n := by
  cases k with
  | zero => exact hn
  | succ k =>
    have := bestN_le d xs m k
    unfold bestN
    split <;> omega
def bestItemF (d : CoD) (xs : List ItD) (m : MD) : Int × Bool := if judgedB d xs m && !((xs.length : Int) == 0) then (((bestN d xs m xs.length : Nat) : Int), true) else (0, false)

set_option maxRecDepth 100000 in
set_option maxHeartbeats 2000000 in
theorem i.itemScores_m (w : World) (v v1 v2 : Value) (d : CoD) (xs : List ItD) (m : MD) (h : kC.rd w v d) (hok : kC.ok d) (hx : kIt.rd w v1 xs) (hm : kM.rd w v2 m) (hj : JOk d xs m) :
    Calls Tryz.prog 36 #[v, v1, v2] w fun e w' => ∃ A' c', e = .returned (.slice A' xs.length c') ∧ OwnI 3 w' w.heap.size A' xs.length c' (scoresN d xs m xs.length) ∧ Ext w w' := by
  obtain ⟨Ac, nc, cc, Al, nl, cl, r, b, p, f, rfl⟩ := kC.shape h
  obtain ⟨A, c, rfl, hl⟩ := kIt.lr hx
  obtain ⟨Am, nm, cm, Am', nm', cm', rfl⟩ := kM.shape hm
  have h14 := hj.ls.n
  have a1 := hl.1; have a2 := hl.2.1
  have IB := hide (fun (wq : World) (xq : Ext w wq) (k : Nat) (hk : k < xs.length) => i.itemScore_m wq _ _ _ d xs m k (kC.rd_ext h xq) hok (kIt.rd_ext hx xq) (kM.rd_ext hm xq) hj hk)
  clear h hx hl hm hj
  obtain ⟨n, hn⟩ : ∃ n, Hid (xs.length = n) := ⟨_, rfl⟩
  rw [hn.out] at h14 a1 IB ⊢
  obtain ⟨W0, hW0⟩ : ∃ W0, Hid (W0 = (w.alloc (.cells #[.slice Ac nc cc, .slice Al nl cl, .int .i64 r, .int .i64 b, .int .i64 p, .int .i64 f] 26)).alloc (.cells #[.slice Am nm cm, .slice Am' nm' cm'] 30)) := ⟨_, rfl⟩
  have X0 : Hid (Ext w W0) := by rw [hW0.out]; exact (Ext.alloc w _).trans (Ext.alloc _ _)
  have B0 : Hid (Blk W0 w.heap.size #[.slice Ac nc cc, .slice Al nl cl, .int .i64 r, .int .i64 b, .int .i64 p, .int .i64 f] 26) := by rw [hW0.out]; exact (Blk.new rfl _ _).alloc _
  have B1 : Hid (Blk W0 (w.heap.size + 1) #[.slice Am nm cm, .slice Am' nm' cm'] 30) := by rw [hW0.out]; exact Blk.new (by simp) _ _
  have zz : W0.heap.size = w.heap.size + 1 + 1 := by rw [hW0.out]; simp
  have zW : w.heap.size ≤ W0.heap.size := by omega
  have O9 : Hid (OwnI 3 (W0.alloc (.cells #[] 3)) W0.heap.size (some ⟨w.heap.size + 1 + 1, 0, none⟩) 0 0 (scoresN d xs m 0)) := Own.emptyAt zz 3 (by omega)
  have X9 : Hid (Ext W0 (W0.alloc (.cells #[] 3))) := Ext.alloc W0 _
  have ZZ := hide zz
  clear zz
  go_enter Tryz.func36, Tryz.ntmps36
  go_wp2
  rw [← hW0.out]
  clear hW0
  go_loopw [7, 12] (fun o i wr => ∃ (k : Nat) (A' : Option Addr) (c' : Nat), k ≤ n ∧ i = .int .i64 k ∧ o = .slice A' k c' ∧ OwnI 3 wr W0.heap.size A' k c' (scoresN d xs m k) ∧ Ext W0 wr) (fun _ i _ => n - (intOf i).toNat)
  case atStart => exact ⟨0, _, _, Nat.zero_le _, rfl, rfl, O9.out, X9.out⟩
  case round =>
    obtain ⟨k, A', c', hk, rfl, rfl, hown, hx⟩ := hrel
    have HO := hide hown
    have HX := hide hx
    have oc1 := hown.capn; have oc2 := hown.capm
    clear hown hx
    by_cases hlt : k < n
    · have CB := hide (IB.out wr (X0.out.trans HX.out) k hlt)
      have cB := (B0.out.ext HX.out).cell
      have cM := (B1.out.ext HX.out).cell
      have TK := hide (scoresN_succ d xs m k)
      generalize scoreF d xs m k = Z at *
      go_wp2_with fail
      refine CB.out.mono ?_
      rintro e w2 ⟨rfl, x2⟩
      have Y2 := hide (HX.out.trans x2)
      have O2 : Hid (OwnI 3 w2 W0.heap.size A' k c' (scoresN d xs m k)) := HO.out.below x2 (Nat.le_refl _)
      have sz2 := Y2.out.size
      clear x2 cB cM CB
      go_wp2_with (at_builtin; refine wpList_append_sl rfl (.tmp 15) (.tmp 21) rfl elem_int rfl rfl (lo := W0.heap.size) (Own.alloc O2.out (.cells #[.int .i64 Z] 3)) (Sl.one w2 (.int .i64 Z) 3) (one_int _) ?c1 ?c2 ?c3 ?_)
      case c1 => omega
      case c2 => omega
      case c3 => simp; omega
      intro A9 c9 w9 hap
      have Y9 := hide (hap.ext (Y2.out.trans (Ext.alloc w2 _)) O2.out.fromLo)
      have HAP := hide hap
      clear hap
      go_wp2
      go_roundw
      case rel => exact ⟨k + 1, A9, c9, by omega, by go_num, rfl, own_conv HAP.out.own (Nat.le_refl _) rfl (by rw [TK.out, List.map_append]; rfl), Y9.out⟩
      case measure => simp [intOf]; omega
    · have ek : n = k := by omega
      subst ek
      go_wp2
      go_ret
      exact ⟨A', c', rfl, HO.out.lower zW, X0.out.trans HX.out⟩

set_option maxRecDepth 100000 in
set_option maxHeartbeats 2000000 in
theorem s.elScores_m (w : World) (v v1 v2 : Value) (d : CoD) (xs : List ItD) (m : MD) (h : kC.rd w v d) (hok : kC.ok d) (hx : kIt.rd w v1 xs) (hm : kM.rd w v2 m) (hj : JOk d xs m) :
    Calls Tryz.prog 38 #[v, v1, v2] w fun e w' => ∃ A' c', e = .returned (.slice A' xs.length c') ∧ OwnI 3 w' w.heap.size A' xs.length c' (scoresN d xs m xs.length) ∧ Ext w w' := by
  obtain ⟨Ac, nc, cc, Al, nl, cl, r, b, p, f, rfl⟩ := kC.shape h
  obtain ⟨A, c, rfl, hl⟩ := kIt.lr hx
  obtain ⟨Am, nm, cm, Am', nm', cm', rfl⟩ := kM.shape hm
  have h14 := hj.ls.n
  have a1 := hl.1; have a2 := hl.2.1
  have IB := hide (fun (wq : World) (xq : Ext w wq) (k : Nat) (hk : k < xs.length) => s.elScore_m wq _ _ _ d xs m k (kC.rd_ext h xq) hok (kIt.rd_ext hx xq) (kM.rd_ext hm xq) hj hk)
  clear h hx hl hm hj
  obtain ⟨n, hn⟩ : ∃ n, Hid (xs.length = n) := ⟨_, rfl⟩
  rw [hn.out] at h14 a1 IB ⊢
  obtain ⟨W0, hW0⟩ : ∃ W0, Hid (W0 = (w.alloc (.cells #[.slice Ac nc cc, .slice Al nl cl, .int .i64 r, .int .i64 b, .int .i64 p, .int .i64 f] 26)).alloc (.cells #[.slice Am nm cm, .slice Am' nm' cm'] 30)) := ⟨_, rfl⟩
  have X0 : Hid (Ext w W0) := by rw [hW0.out]; exact (Ext.alloc w _).trans (Ext.alloc _ _)
  have B0 : Hid (Blk W0 w.heap.size #[.slice Ac nc cc, .slice Al nl cl, .int .i64 r, .int .i64 b, .int .i64 p, .int .i64 f] 26) := by rw [hW0.out]; exact (Blk.new rfl _ _).alloc _
  have B1 : Hid (Blk W0 (w.heap.size + 1) #[.slice Am nm cm, .slice Am' nm' cm'] 30) := by rw [hW0.out]; exact Blk.new (by simp) _ _
  have zz : W0.heap.size = w.heap.size + 1 + 1 := by rw [hW0.out]; simp
  have zW : w.heap.size ≤ W0.heap.size := by omega
  have O9 : Hid (OwnI 3 W0 W0.heap.size none 0 0 (scoresN d xs m 0)) := OwnI.nil
  have X9 : Hid (Ext W0 W0) := Ext.refl W0
  have ZZ := hide zz
  clear zz
  go_enter Tryz.func38, Tryz.ntmps38
  go_wp2
  rw [← hW0.out]
  clear hW0
  go_loopw [7, 11] (fun o i wr => ∃ (k : Nat) (A' : Option Addr) (c' : Nat), k ≤ n ∧ i = .int .i64 k ∧ o = .slice A' k c' ∧ OwnI 3 wr W0.heap.size A' k c' (scoresN d xs m k) ∧ Ext W0 wr) (fun _ i _ => n - (intOf i).toNat)
  case atStart => exact ⟨0, _, _, Nat.zero_le _, rfl, rfl, O9.out, X9.out⟩
  case round =>
    obtain ⟨k, A', c', hk, rfl, rfl, hown, hx⟩ := hrel
    have HO := hide hown
    have HX := hide hx
    have oc1 := hown.capn; have oc2 := hown.capm
    clear hown hx
    by_cases hlt : k < n
    · have CB := hide (IB.out wr (X0.out.trans HX.out) k hlt)
      have cB := (B0.out.ext HX.out).cell
      have cM := (B1.out.ext HX.out).cell
      have TK := hide (scoresN_succ d xs m k)
      generalize scoreF d xs m k = Z at *
      go_wp2_with fail
      refine CB.out.mono ?_
      rintro e w2 ⟨rfl, x2⟩
      have Y2 := hide (HX.out.trans x2)
      have O2 : Hid (OwnI 3 w2 W0.heap.size A' k c' (scoresN d xs m k)) := HO.out.below x2 (Nat.le_refl _)
      have sz2 := Y2.out.size
      clear x2 cB cM CB
      go_wp2_with (at_builtin; refine wpList_append_sl rfl (.tmp 14) (.tmp 20) rfl elem_int rfl rfl (lo := W0.heap.size) (Own.alloc O2.out (.cells #[.int .i64 Z] 3)) (Sl.one w2 (.int .i64 Z) 3) (one_int _) ?c1 ?c2 ?c3 ?_)
      case c1 => omega
      case c2 => omega
      case c3 => simp; omega
      intro A9 c9 w9 hap
      have Y9 := hide (hap.ext (Y2.out.trans (Ext.alloc w2 _)) O2.out.fromLo)
      have HAP := hide hap
      clear hap
      go_wp2
      go_roundw
      case rel => exact ⟨k + 1, A9, c9, by omega, by go_num, rfl, own_conv HAP.out.own (Nat.le_refl _) rfl (by rw [TK.out, List.map_append]; rfl), Y9.out⟩
      case measure => simp [intOf]; omega
    · have ek : n = k := by omega
      subst ek
      go_wp2
      go_ret
      exact ⟨A', c', rfl, HO.out.lower zW, X0.out.trans HX.out⟩

set_option maxRecDepth 100000 in
set_option maxHeartbeats 2000000 in
theorem i.ItemSum_law (w : World) (v v1 v2 : Value) (d : CoD) (xs : List ItD) (m : MD) (h : kC.rd w v d) (hok : kC.ok d) (hx : kIt.rd w v1 xs) (hox : kIt.ok xs) (hm : kM.rd w v2 m) (hom : kM.ok m) :
    Calls Tryz.prog 8 #[v, v1, v2] w fun e w' => e = .returned (.tuple #[.int .i64 (itemSumF d xs m).1, .bool (itemSumF d xs m).2]) ∧ Ext w w' := by
  obtain ⟨Ac, nc, cc, Al, nl, cl, r, b, p, f, rfl⟩ := kC.shape h
  obtain ⟨A, c, rfl, hl⟩ := kIt.lr hx
  obtain ⟨Am, nm, cm, Am', nm', cm', rfl⟩ := kM.shape hm
  have HR := hide h
  have HX := hide hx
  have HM := hide hm
  have a1 := hl.1; have a2 := hl.2.1
  have n1 := kIt.ok_len hox
  obtain ⟨W0, hW0⟩ : ∃ W0, Hid (W0 = (w.alloc (.cells #[.slice Ac nc cc, .slice Al nl cl, .int .i64 r, .int .i64 b, .int .i64 p, .int .i64 f] 26)).alloc (.cells #[.slice Am nm cm, .slice Am' nm' cm'] 30)) := ⟨_, rfl⟩
  have X0 : Hid (Ext w W0) := by rw [hW0.out]; exact (Ext.alloc w _).trans (Ext.alloc _ _)
  have B0 : Hid (Blk W0 w.heap.size #[.slice Ac nc cc, .slice Al nl cl, .int .i64 r, .int .i64 b, .int .i64 p, .int .i64 f] 26) := by rw [hW0.out]; exact (Blk.new rfl _ _).alloc _
  have B1 : Hid (Blk W0 (w.heap.size + 1) #[.slice Am nm cm, .slice Am' nm' cm'] 30) := by rw [hW0.out]; exact Blk.new (by simp) _ _
  have HJ := hide (fun (wq : World) (xq : Ext w wq) => i.areJudged_m wq _ _ _ d xs m (kC.rd_ext HR.out xq) hok (kIt.rd_ext HX.out xq) hox (kM.rd_ext HM.out xq) hom)
  obtain ⟨F, hF⟩ : ∃ F, Hid (itemSumF d xs m = F) := ⟨_, rfl⟩
  rw [hF.out]
  clear h hx hm hl
  obtain ⟨n, hn⟩ : ∃ n, Hid (xs.length = n) := ⟨_, rfl⟩
  have HX2 := HX
  rw [hn.out] at HJ HX2 n1 a1 ⊢
  go_enter Tryz.func8, Tryz.ntmps8
  go_wp2_with fail
  rw [← hW0.out]
  clear hW0
  refine (HJ.out _ X0.out).mono ?_
  rintro e w1 ⟨rfl, x1⟩
  replace X0 := hide (X0.out.trans x1)
  replace B0 := hide (B0.out.ext x1)
  replace B1 := hide (B1.out.ext x1)
  clear x1
  have c0_ := B0.out.cell; have c1_ := B1.out.cell
  cases hh : judgedB d xs m
  · have HF : Hid (F = (0, false)) := by show _ = _; rw [← hF.out]; simp [itemSumF, hh]
    clear hh
    go_wp2
    go_ret2
    rw [HF.out]
    exact ⟨rfl, X0.out⟩
  have hj := jOk hh
  have h14 := hj.ls.n
  rw [hn.out] at h14
  have HF : Hid (F = ((scoresN d xs m n).sum, true)) := by show _ = _; rw [← hF.out, ← hn.out]; simp [itemSumF, hh]
  have CS := hide (i.itemScores_m w1 _ _ _ d xs m (kC.rd_ext HR.out X0.out) hok (kIt.rd_ext HX.out X0.out) (kM.rd_ext HM.out X0.out) hj)
  have SM := hide (scoresN_small hj (n := n) (by rw [hn.out]; exact Nat.le_refl _))
  rw [hn.out] at CS
  clear hh hj
  go_wp2_with fail
  clear c0_ c1_
  refine CS.out.mono ?_
  rintro e w2 ⟨A9, c9, rfl, o9, x1⟩
  replace X0 := hide (X0.out.trans x1)
  have SQ := hide (i.sumInts_any A9 n c9 w2.heap.size _ w2 o9.sl (by omega) SM.out)
  clear x1 o9
  generalize (scoresN d xs m n).sum = S9 at *
  go_wp2_with (go_at_call 39; refine SQ.out.mono ?_; rintro e w3 ⟨rfl, rfl⟩)
  go_ret2
  rw [HF.out]
  exact ⟨rfl, X0.out⟩

set_option maxRecDepth 100000 in
set_option maxHeartbeats 2000000 in
theorem s.ItemSum_law (w : World) (v v1 v2 : Value) (d : CoD) (xs : List ItD) (m : MD) (h : kC.rd w v d) (hok : kC.ok d) (hx : kIt.rd w v1 xs) (hox : kIt.ok xs) (hm : kM.rd w v2 m) (hom : kM.ok m) :
    Calls Tryz.prog 9 #[v, v1, v2] w fun e w' => e = .returned (.tuple #[.int .i64 (itemSumF d xs m).1, .bool (itemSumF d xs m).2]) ∧ Ext w w' := by
  obtain ⟨Ac, nc, cc, Al, nl, cl, r, b, p, f, rfl⟩ := kC.shape h
  obtain ⟨A, c, rfl, hl⟩ := kIt.lr hx
  obtain ⟨Am, nm, cm, Am', nm', cm', rfl⟩ := kM.shape hm
  have HR := hide h
  have HX := hide hx
  have HM := hide hm
  have a1 := hl.1; have a2 := hl.2.1
  have n1 := kIt.ok_len hox
  obtain ⟨W0, hW0⟩ : ∃ W0, Hid (W0 = (w.alloc (.cells #[.slice Ac nc cc, .slice Al nl cl, .int .i64 r, .int .i64 b, .int .i64 p, .int .i64 f] 26)).alloc (.cells #[.slice Am nm cm, .slice Am' nm' cm'] 30)) := ⟨_, rfl⟩
  have X0 : Hid (Ext w W0) := by rw [hW0.out]; exact (Ext.alloc w _).trans (Ext.alloc _ _)
  have B0 : Hid (Blk W0 w.heap.size #[.slice Ac nc cc, .slice Al nl cl, .int .i64 r, .int .i64 b, .int .i64 p, .int .i64 f] 26) := by rw [hW0.out]; exact (Blk.new rfl _ _).alloc _
  have B1 : Hid (Blk W0 (w.heap.size + 1) #[.slice Am nm cm, .slice Am' nm' cm'] 30) := by rw [hW0.out]; exact Blk.new (by simp) _ _
  have HJ := hide (fun (wq : World) (xq : Ext w wq) => s.elGood_m wq _ _ _ d xs m (kC.rd_ext HR.out xq) hok (kIt.rd_ext HX.out xq) hox (kM.rd_ext HM.out xq) hom)
  obtain ⟨F, hF⟩ : ∃ F, Hid (itemSumF d xs m = F) := ⟨_, rfl⟩
  rw [hF.out]
  clear h hx hm hl
  obtain ⟨n, hn⟩ : ∃ n, Hid (xs.length = n) := ⟨_, rfl⟩
  have HX2 := HX
  rw [hn.out] at HJ HX2 n1 a1 ⊢
  go_enter Tryz.func9, Tryz.ntmps9
  go_wp2_with fail
  rw [← hW0.out]
  clear hW0
  refine (HJ.out _ X0.out).mono ?_
  rintro e w1 ⟨rfl, x1⟩
  replace X0 := hide (X0.out.trans x1)
  replace B0 := hide (B0.out.ext x1)
  replace B1 := hide (B1.out.ext x1)
  clear x1
  have c0_ := B0.out.cell; have c1_ := B1.out.cell
  cases hh : judgedB d xs m
  · have HF : Hid (F = (0, false)) := by show _ = _; rw [← hF.out]; simp [itemSumF, hh]
    clear hh
    go_wp2
    go_ret2
    rw [HF.out]
    exact ⟨rfl, X0.out⟩
  have hj := jOk hh
  have h14 := hj.ls.n
  rw [hn.out] at h14
  have HF : Hid (F = ((scoresN d xs m n).sum, true)) := by show _ = _; rw [← hF.out, ← hn.out]; simp [itemSumF, hh]
  have CS := hide (s.elScores_m w1 _ _ _ d xs m (kC.rd_ext HR.out X0.out) hok (kIt.rd_ext HX.out X0.out) (kM.rd_ext HM.out X0.out) hj)
  have SM := hide (scoresN_small hj (n := n) (by rw [hn.out]; exact Nat.le_refl _))
  rw [hn.out] at CS
  clear hh hj
  go_wp2_with fail
  clear c0_ c1_
  refine CS.out.mono ?_
  rintro e w2 ⟨A9, c9, rfl, o9, x1⟩
  replace X0 := hide (X0.out.trans x1)
  have SQ := hide (s.poSum_any A9 n c9 w2.heap.size _ w2 o9.sl (by omega) SM.out)
  clear x1 o9
  generalize (scoresN d xs m n).sum = S9 at *
  go_wp2_with (go_at_call 40; refine SQ.out.mono ?_; rintro e w3 ⟨rfl, rfl⟩)
  go_ret2
  rw [HF.out]
  exact ⟨rfl, X0.out⟩

set_option maxRecDepth 100000 in
set_option maxHeartbeats 2000000 in
theorem i.BestItem_law (w : World) (v v1 v2 : Value) (d : CoD) (xs : List ItD) (m : MD) (h : kC.rd w v d) (hok : kC.ok d) (hx : kIt.rd w v1 xs) (hox : kIt.ok xs) (hm : kM.rd w v2 m) (hom : kM.ok m) :
    Calls Tryz.prog 10 #[v, v1, v2] w fun e w' => e = .returned (.tuple #[.int .i64 (bestItemF d xs m).1, .bool (bestItemF d xs m).2]) ∧ Ext w w' := by
  obtain ⟨Ac, nc, cc, Al, nl, cl, r, b, p, f, rfl⟩ := kC.shape h
  obtain ⟨A, c, rfl, hl⟩ := kIt.lr hx
  obtain ⟨Am, nm, cm, Am', nm', cm', rfl⟩ := kM.shape hm
  have HR := hide h
  have HX := hide hx
  have HM := hide hm
  have a1 := hl.1; have a2 := hl.2.1
  have n1 := kIt.ok_len hox
  obtain ⟨W0, hW0⟩ : ∃ W0, Hid (W0 = (w.alloc (.cells #[.slice Ac nc cc, .slice Al nl cl, .int .i64 r, .int .i64 b, .int .i64 p, .int .i64 f] 26)).alloc (.cells #[.slice Am nm cm, .slice Am' nm' cm'] 30)) := ⟨_, rfl⟩
  have X0 : Hid (Ext w W0) := by rw [hW0.out]; exact (Ext.alloc w _).trans (Ext.alloc _ _)
  have B0 : Hid (Blk W0 w.heap.size #[.slice Ac nc cc, .slice Al nl cl, .int .i64 r, .int .i64 b, .int .i64 p, .int .i64 f] 26) := by rw [hW0.out]; exact (Blk.new rfl _ _).alloc _
  have B1 : Hid (Blk W0 (w.heap.size + 1) #[.slice Am nm cm, .slice Am' nm' cm'] 30) := by rw [hW0.out]; exact Blk.new (by simp) _ _
  have HJ := hide (fun (wq : World) (xq : Ext w wq) => i.areJudged_m wq _ _ _ d xs m (kC.rd_ext HR.out xq) hok (kIt.rd_ext HX.out xq) hox (kM.rd_ext HM.out xq) hom)
  obtain ⟨F, hF⟩ : ∃ F, Hid (bestItemF d xs m = F) := ⟨_, rfl⟩
  rw [hF.out]
  clear h hx hm hl
  obtain ⟨n, hn⟩ : ∃ n, Hid (xs.length = n) := ⟨_, rfl⟩
  have HX2 := HX
  rw [hn.out] at HJ HX2 n1 a1 ⊢
  go_enter Tryz.func10, Tryz.ntmps10
  go_wp2_with fail
  rw [← hW0.out]
  clear hW0
  refine (HJ.out _ X0.out).mono ?_
  rintro e w1 ⟨rfl, x1⟩
  replace X0 := hide (X0.out.trans x1)
  replace B0 := hide (B0.out.ext x1)
  replace B1 := hide (B1.out.ext x1)
  clear x1
  have c0_ := B0.out.cell; have c1_ := B1.out.cell
  cases hh : judgedB d xs m
  · have HF : Hid (F = (0, false)) := by show _ = _; rw [← hF.out]; simp [bestItemF, hh]
    clear hh
    go_wp2
    go_ret2
    rw [HF.out]
    exact ⟨rfl, X0.out⟩
  have hj := jOk hh
  have h14 := hj.ls.n
  rw [hn.out] at h14
  by_cases hz : n = 0
  · have HF : Hid (F = (0, false)) := by show _ = _; rw [← hF.out]; simp [bestItemF, hn.out, hz]
    have e1 : ((n : Int) == 0) = true := by simp [hz]
    clear hh hj hz
    go_wp2
    go_ret2
    rw [HF.out]
    exact ⟨rfl, X0.out⟩
  have e1 : ((n : Int) == 0) = false := by simp [hz]
  have HF : Hid (F = (((bestN d xs m n : Nat) : Int), true)) := by show _ = _; rw [← hF.out, ← hn.out]; rw [← hn.out] at e1; simp only [bestItemF, hh, e1]; rfl
  have n0 : 0 < n := by omega
  have CS := hide (i.itemScores_m w1 _ _ _ d xs m (kC.rd_ext HR.out X0.out) hok (kIt.rd_ext HX.out X0.out) (kM.rd_ext HM.out X0.out) hj)
  rw [hn.out] at CS
  clear hh hj hz
  go_wp2_with fail
  clear c0_ c1_ e1
  refine CS.out.mono ?_
  rintro e w2 ⟨A9, c9, rfl, o9, x1⟩
  replace X0 := hide (X0.out.trans x1)
  obtain ⟨g9, rfl, hg9, hg9b, hcc⟩ := OwnI.pos o9 n0
  have oc2 := o9.capm
  have CE : Hid (∀ k, k < n → w2.cell? ⟨g9, k, none⟩ = some (.int .i64 (scoreF d xs m k))) := fun k hk => by
    have := OwnI.cell o9 k hk
    rwa [scoresN_at d xs m hk] at this
  clear x1 o9
  go_wp2
  go_loopw [9, 28] (fun o i wr => ∃ (k : Nat), k ≤ n ∧ i = .int .i64 k ∧ o = .int .i64 (bestN d xs m k : Nat) ∧ Ext w2 wr) (fun _ i _ => n - (intOf i).toNat)
  case atStart => exact ⟨0, Nat.zero_le _, rfl, rfl, Ext.refl _⟩
  case round =>
    obtain ⟨k, hk, rfl, rfl, hx⟩ := hrel
    have HXX := hide hx
    clear hx
    by_cases hlt : k < n
    · have bl := bestN_lt d xs m hk n0
      have q1 := (HXX.out.cell (p := ⟨g9, k, none⟩) hg9b).trans (CE.out k hlt)
      have q2 := (HXX.out.cell (p := ⟨g9, bestN d xs m k, none⟩) hg9b).trans (CE.out _ bl)
      have BS : Hid (bestN d xs m (k + 1) = if scoreF d xs m (bestN d xs m k) < scoreF d xs m k then k else bestN d xs m k) := rfl
      generalize hQ : scoreF d xs m (bestN d xs m k) = Sb at *
      generalize scoreF d xs m k = Sk at *
      clear hQ
      generalize bestN d xs m k = bb at *
      by_cases hgt : Sb < Sk
      · have BT : Hid (bestN d xs m (k + 1) = k) := by show _ = _; rw [BS.out, if_pos hgt]
        go_wp2
        go_roundw
        case rel => exact ⟨k + 1, by omega, by go_num, by rw [BT.out], HXX.out⟩
        case measure => simp [intOf]; omega
      · have BT : Hid (bestN d xs m (k + 1) = bb) := by show _ = _; rw [BS.out, if_neg hgt]
        go_wp2
        go_roundw
        case rel => exact ⟨k + 1, by omega, by go_num, by rw [BT.out], HXX.out⟩
        case measure => simp [intOf]; omega
    · have ek : n = k := by omega
      subst ek
      go_wp2
      go_ret2
      rw [HF.out]
      exact ⟨rfl, X0.out.trans HXX.out⟩

set_option maxRecDepth 100000 in
set_option maxHeartbeats 2000000 in
theorem s.BestItem_law (w : World) (v v1 v2 : Value) (d : CoD) (xs : List ItD) (m : MD) (h : kC.rd w v d) (hok : kC.ok d) (hx : kIt.rd w v1 xs) (hox : kIt.ok xs) (hm : kM.rd w v2 m) (hom : kM.ok m) :
    Calls Tryz.prog 11 #[v, v1, v2] w fun e w' => e = .returned (.tuple #[.int .i64 (bestItemF d xs m).1, .bool (bestItemF d xs m).2]) ∧ Ext w w' := by
  obtain ⟨Ac, nc, cc, Al, nl, cl, r, b, p, f, rfl⟩ := kC.shape h
  obtain ⟨A, c, rfl, hl⟩ := kIt.lr hx
  obtain ⟨Am, nm, cm, Am', nm', cm', rfl⟩ := kM.shape hm
  have HR := hide h
  have HX := hide hx
  have HM := hide hm
  have a1 := hl.1; have a2 := hl.2.1
  have n1 := kIt.ok_len hox
  obtain ⟨W0, hW0⟩ : ∃ W0, Hid (W0 = (w.alloc (.cells #[.slice Ac nc cc, .slice Al nl cl, .int .i64 r, .int .i64 b, .int .i64 p, .int .i64 f] 26)).alloc (.cells #[.slice Am nm cm, .slice Am' nm' cm'] 30)) := ⟨_, rfl⟩
  have X0 : Hid (Ext w W0) := by rw [hW0.out]; exact (Ext.alloc w _).trans (Ext.alloc _ _)
  have B0 : Hid (Blk W0 w.heap.size #[.slice Ac nc cc, .slice Al nl cl, .int .i64 r, .int .i64 b, .int .i64 p, .int .i64 f] 26) := by rw [hW0.out]; exact (Blk.new rfl _ _).alloc _
  have B1 : Hid (Blk W0 (w.heap.size + 1) #[.slice Am nm cm, .slice Am' nm' cm'] 30) := by rw [hW0.out]; exact Blk.new (by simp) _ _
  have HJ := hide (fun (wq : World) (xq : Ext w wq) => s.elGood_m wq _ _ _ d xs m (kC.rd_ext HR.out xq) hok (kIt.rd_ext HX.out xq) hox (kM.rd_ext HM.out xq) hom)
  obtain ⟨F, hF⟩ : ∃ F, Hid (bestItemF d xs m = F) := ⟨_, rfl⟩
  rw [hF.out]
  clear h hx hm hl
  obtain ⟨n, hn⟩ : ∃ n, Hid (xs.length = n) := ⟨_, rfl⟩
  have HX2 := HX
  rw [hn.out] at HJ HX2 n1 a1 ⊢
  go_enter Tryz.func11, Tryz.ntmps11
  go_wp2_with fail
  rw [← hW0.out]
  clear hW0
  refine (HJ.out _ X0.out).mono ?_
  rintro e w1 ⟨rfl, x1⟩
  replace X0 := hide (X0.out.trans x1)
  replace B0 := hide (B0.out.ext x1)
  replace B1 := hide (B1.out.ext x1)
  clear x1
  have c0_ := B0.out.cell; have c1_ := B1.out.cell
  cases hh : judgedB d xs m
  · have HF : Hid (F = (0, false)) := by show _ = _; rw [← hF.out]; simp [bestItemF, hh]
    clear hh
    go_wp2
    go_ret2
    rw [HF.out]
    exact ⟨rfl, X0.out⟩
  have hj := jOk hh
  have h14 := hj.ls.n
  rw [hn.out] at h14
  by_cases hz : n = 0
  · have HF : Hid (F = (0, false)) := by show _ = _; rw [← hF.out]; simp [bestItemF, hn.out, hz]
    have e1 : ((n : Int) == 0) = true := by simp [hz]
    clear hh hj hz
    go_wp2
    go_ret2
    rw [HF.out]
    exact ⟨rfl, X0.out⟩
  have e1 : ((n : Int) == 0) = false := by simp [hz]
  have HF : Hid (F = (((bestN d xs m n : Nat) : Int), true)) := by show _ = _; rw [← hF.out, ← hn.out]; rw [← hn.out] at e1; simp only [bestItemF, hh, e1]; rfl
  have n0 : 0 < n := by omega
  have HJO := hide hj
  have SCO := hide (fun (wq : World) (xq : Ext w wq) (k : Nat) (hk : k < n) => s.elScore_m wq _ _ _ d xs m k (kC.rd_ext HR.out xq) hok (kIt.rd_ext HX2.out xq) (kM.rd_ext HM.out xq) HJO.out (by rw [hn.out]; exact hk))
  clear hh hj hz
  go_wp2
  clear c0_ c1_ e1
  go_loopw [8, 22] (fun o i wr => ∃ (k : Nat), k ≤ n ∧ i = .int .i64 k ∧ o = .int .i64 (bestN d xs m k : Nat) ∧ Ext w1 wr) (fun _ i _ => n - (intOf i).toNat)
  case atStart => exact ⟨0, Nat.zero_le _, rfl, rfl, Ext.refl _⟩
  case round =>
    obtain ⟨k, hk, rfl, rfl, hx⟩ := hrel
    have HXX := hide hx
    clear hx
    by_cases hlt : k < n
    · have bl := bestN_lt d xs m hk n0
      have BS : Hid (bestN d xs m (k + 1) = if scoreF d xs m (bestN d xs m k) < scoreF d xs m k then k else bestN d xs m k) := rfl
      have SK := hide (fun dd os => ext_regrown (SCO.out (grow (redrawn wr dd) os) ((X0.out.trans HXX.out).trans (ext_re wr dd os)) k hlt))
      have SB := hide (fun dd os => ext_regrown (SCO.out (grow (redrawn wr dd) os) ((X0.out.trans HXX.out).trans (ext_re wr dd os)) _ bl))
      have c0_ := fun dd os => (B0.out.ext (HXX.out.trans (ext_re wr dd os))).cell
      have c1_ := fun dd os => (B1.out.ext (HXX.out.trans (ext_re wr dd os))).cell
      generalize hQ : scoreF d xs m (bestN d xs m k) = Sb at *
      generalize scoreF d xs m k = Sk at *
      clear hQ
      generalize bestN d xs m k = bb at *
      by_cases hgt : Sb < Sk
      case pos =>
        have BT : Hid (bestN d xs m (k + 1) = k) := by show _ = _; rw [BS.out, if_pos hgt]
        go_wp2
        refine wp_region_quiet_below (by kernel_rfl) (by kernel_rfl) ?_
        repeat (go_big_quiet_step (first | (go_at_call 41; with_reducible exact SK.out _ _) | (go_at_call 41; with_reducible exact SB.out _ _)))
        refine wpQuiet_nil ?_
        intro _ hw'
        obtain ⟨⟨dq, osq⟩, hw''⟩ := hw'
        subst hw''
        have Y2 := hide (ext_re wr dq osq)
        clear c0_ c1_
        generalize grow (redrawn wr dq) osq = w3 at *
        go_wp2
        go_roundw
        case rel => exact ⟨k + 1, by omega, by go_num, by rw [BT.out], HXX.out.trans Y2.out⟩
        case measure => simp [intOf]; omega
      case neg =>
        have BT : Hid (bestN d xs m (k + 1) = bb) := by show _ = _; rw [BS.out, if_neg hgt]
        go_wp2
        refine wp_region_quiet_below (by kernel_rfl) (by kernel_rfl) ?_
        repeat (go_big_quiet_step (first | (go_at_call 41; with_reducible exact SK.out _ _) | (go_at_call 41; with_reducible exact SB.out _ _)))
        refine wpQuiet_nil ?_
        intro _ hw'
        obtain ⟨⟨dq, osq⟩, hw''⟩ := hw'
        subst hw''
        have Y2 := hide (ext_re wr dq osq)
        clear c0_ c1_
        generalize grow (redrawn wr dq) osq = w3 at *
        go_wp2
        go_roundw
        case rel => exact ⟨k + 1, by omega, by go_num, by rw [BT.out], HXX.out.trans Y2.out⟩
        case measure => simp [intOf]; omega
    · have ek : n = k := by omega
      subst ek
      go_wp2
      go_ret2
      rw [HF.out]
      exact ⟨rfl, X0.out.trans HXX.out⟩
end Go.Proofs.YtaoeomgehpdedaaGreat
