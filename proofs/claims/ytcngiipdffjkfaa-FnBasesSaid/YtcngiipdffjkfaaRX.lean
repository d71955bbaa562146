/- MarkLosses. -/
import Derived.Test.YtcngiipdffjkfaaRW
namespace Go.Proofs.Ytcngiipdffjkfaa
open Go.RowKit Go.Sort
set_option linter.unusedVariables false

/-- The second list of bases taken from the first, one by one: what both loops keep. -/
theorem loss_step {d : CoD} {xs : List ItD} {g k n c : Nat} {wr : World} {lo : Nat} (hn : xs.length = n) (hk : k < n) (h : OwnI 3 wr lo (some ⟨g, 0, none⟩) n c (lossN d xs k)) :
    OwnI 3 (wr.setCell ⟨g, k, none⟩ (.int .i64 (baseF d (xs.map cleanD) k - baseF d xs k))) lo (some ⟨g, 0, none⟩) n c (lossN d xs (k + 1)) := by
  rw [lossN_succ (by omega)]
  exact h.set k _

set_option maxRecDepth 100000 in
set_option maxHeartbeats 4000000 in
theorem i.MarkLosses_law (w : World) (v v' : Value) (d : CoD) (xs : List ItD) (h : kC.rd w v d) (hok : kC.ok d) (hx : kIt.rd w v' xs) (hok' : kIt.ok xs) :
    Calls Try.prog 15 #[v, v'] w fun e w' => ∃ v0, e = .returned (.tuple #[v0, .bool (lossLaw d xs).2]) ∧ kI.fr w' w.heap.size w'.heap.size v0 (lossLaw d xs).1 ∧ kI.ok (lossLaw d xs).1 ∧ Ext w w' := by
  obtain ⟨Ac, nc, cc, Al, nl, cl, r, b, p, f, rfl⟩ := kC.shape h
  obtain ⟨A, c, rfl, hl⟩ := kIt.lr hx
  have hw : wtL kdItem xs ≤ 1048576 := hok'
  have hlen := Nat.le_trans (wtL_len kdItem xs) hw
  have HR := hide h
  have HL := hide hl
  have a1 := hl.1; have a2 := hl.2.1
  have GD := hide (fun (wq : World) (xq : Ext w wq) => i.areKnown_m wq _ d A c w.heap.size xs (kC.rd_ext h xq) hok (hl.ext xq (Nat.le_refl _)) xq.size hlen (fun k x hk => Nat.le_trans (wtL_at kdItem xs k x hk) hw))
  have CL := hide (fun (ho : LsOk d xs) (wq : World) (xq : Ext w wq) => i.cleanItems_any wq A c w.heap.size xs (hl.ext xq (Nat.le_refl _)) xq.size hw (fun k x hk => (ho.it k x hk).ml))
  obtain ⟨F, hF⟩ : ∃ F, Hid (lossLaw d xs = F) := ⟨_, rfl⟩
  rw [hF.out]
  clear h hx hl hok' hw
  obtain ⟨W0, hW0⟩ : ∃ W0, Hid (W0 = w.alloc (.cells #[.slice Ac nc cc, .slice Al nl cl, .int .i64 r, .int .i64 b, .int .i64 p, .int .i64 f] 27)) := ⟨_, rfl⟩
  have X0 : Hid (Ext w W0) := by rw [hW0.out]; exact Ext.alloc w _
  have B0 : Hid (Blk W0 w.heap.size #[.slice Ac nc cc, .slice Al nl cl, .int .i64 r, .int .i64 b, .int .i64 p, .int .i64 f] 27) := by rw [hW0.out]; exact Blk.new rfl _ _
  have BV := hide (fun (hd : CodeOk d) (ho : LsOk d xs) (wq : World) (xq : Ext w wq) => i.baseValues_m wq _ d A c w.heap.size xs (kC.rd_ext HR.out xq) hok hd (HL.out.ext xq (Nat.le_refl _)) xq.size ho)
  have BC := hide (fun (hd : CodeOk d) (ho : LsOk d xs) (wq : World) (xq : Ext w wq) (A' : Option Addr) (c' B' : Nat) (hl' : LR kdItem wq B' A' c' (xs.map cleanD)) (hB' : B' ≤ wq.heap.size) => i.baseValues_m wq _ d A' c' B' (xs.map cleanD) (kC.rd_ext HR.out xq) hok hd hl' hB' (clean_ls ho))
  obtain ⟨n, hn⟩ : ∃ n, Hid (xs.length = n) := ⟨_, rfl⟩
  rw [List.length_map] at BC
  rw [hn.out] at a1 hlen GD BV CL BC ⊢
  go_enter Try.func15, Try.ntmps15
  go_wp2_with fail
  rw [← hW0.out]
  clear hW0
  refine (GD.out W0 X0.out).mono ?_
  rintro e w1 ⟨rfl, x1⟩
  have X1 := hide (X0.out.trans x1)
  have B1 := hide (B0.out.ext x1)
  clear x1 GD X0
  cases hg : (codeB d && itemsB xs && knownB d.1 xs)
  · have HF : Hid (F = ([], false)) := by show _ = _; rw [← hF.out]; simp [lossLaw, hg]
    clear hg
    go_wp2
    go_ret2
    rw [HF.out]
    exact ⟨_, rfl, kI_nil _ _ _ (Nat.le_refl _), Nat.zero_le _, X1.out⟩
  have HF : Hid (F = (lossN d xs n, true)) := by show _ = _; rw [← hF.out, ← hn.out]; simp [lossLaw, hg]
  have hg2 := hg
  simp only [Bool.and_eq_true] at hg2
  have HC := hide (codeB_ok hg2.1.1)
  have HO := hide (lsOk hg2.1.2 hg2.2)
  have h14 := HO.out.n
  rw [hn.out] at h14
  clear hg hg2 hF
  have cB := B1.out.cell
  go_wp2
  have CQ := hide (CL.out HO.out)
  have BQ := hide (BC.out HC.out HO.out)
  have BK := hide (BV.out HC.out HO.out)
  clear CL BC BV
  go_region_held3 (fun w' => ∀ i, w'.cell? ⟨w.heap.size, i, none⟩ = #[Value.slice Ac nc cc, .slice Al nl cl, .int .i64 r, .int .i64 b, .int .i64 p, .int .i64 f][i]?)
    (first | with_reducible exact (B1.out.ext Y3.out).cell | with_reducible exact (B1.out.ext Y2.out).cell | with_reducible exact (B1.out.ext (Ext.drew _)).cell)
    (first
      | (go_at_call 26; refine (BQ.out w2 (X1.out.trans Y2.out) A2 c2 w2.heap.size O2.out.rd (Nat.le_refl _)).mono ?_; rintro e w3 ⟨A3, c3, rfl, o3, x3⟩; have Y3 := hide (Y2.out.trans x3); have O3 := hide o3; clear o3 x3)
      | (go_at_call 38; refine (CQ.out w1.drew (X1.out.trans (Ext.drew _))).mono ?_; rintro e w2 ⟨A2, c2, fp2, rfl, o2, -, x2⟩; have Y2 := hide ((Ext.drew w1).trans x2); have O2 := hide o2; clear o2 x2))
  have Z2 := Y2.out.size
  have X3 := hide (X1.out.trans Y3.out)
  have B3 := hide (B1.out.ext Y3.out)
  have cB3 := B3.out.cell
  have L0 : Hid (OwnI 3 w3 w2.heap.size A3 n c3 (lossN d xs 0)) := by rw [← lossN_zero]; exact O3.out
  have oc1 := O3.out.capn; have oc2 := O3.out.capm
  have LT : Hid (∀ p, A3 = some p → p.block < w3.heap.size) := fun p hp => by
    rcases OwnI.form L0.out with ⟨h, _⟩ | ⟨g, h, _, h2, _⟩
    · rw [h] at hp; cases hp
    · rw [h] at hp; injection hp with hp; subst hp; exact h2
  clear cB O2 O3 CQ BQ Y2
  go_wp2_with fail
  clear cB3
  refine (BK.out w3 X3.out).mono ?_
  rintro e w4 ⟨A4, c4, rfl, o4, x4⟩
  have O4 := hide o4
  have od1 := o4.capn; have od2 := o4.capm
  have L4 : Hid (OwnI 3 w4 w2.heap.size A3 n c3 (lossN d xs 0)) := L0.out.below x4 (Nat.le_refl _)
  have X4 := hide (X3.out.trans x4)
  have z4 := x4.size
  have z3 := X1.out.size
  clear L0 o4 x4 BK
  go_wp2
  go_loopw [21] (fun i wr => ∃ (k : Nat), k ≤ n ∧ i = .int .i64 k ∧ OwnI 3 wr w2.heap.size A3 n c3 (lossN d xs k) ∧ OwnI 3 wr w3.heap.size A4 n c4 (basesF d xs) ∧ Ext w wr) (fun i _ => n - (intOf i).toNat)
  case atStart => exact ⟨0, Nat.zero_le _, rfl, L4.out, O4.out, X4.out⟩
  case round =>
    obtain ⟨k, hk, rfl, ho, hb, hx⟩ := hrel
    clear L4 O4 X4
    have LK := hide ho
    have OK := hide hb
    have HX := hide hx
    clear ho hb hx
    by_cases hlt : k < n
    · obtain ⟨g, rfl, hg1, hg2, _⟩ := OwnI.pos LK.out (by omega)
      obtain ⟨g4, rfl, hh1, hh2, _⟩ := OwnI.pos OK.out (by omega)
      have cK := OwnI.cell OK.out k hlt
      rw [basesF_at (by rw [hn.out]; exact hlt)] at cK
      have cL := OwnI.cell LK.out k hlt
      rw [lossN_at (by rw [hn.out]; exact hlt)] at cL
      have fL := OwnI.free LK.out k
      have b1 := baseF_bd HC.out HO.out k
      have b2 := baseF_bd HC.out (clean_ls HO.out) k
      have ST := hide (loss_step hn.out hlt LK.out)
      have PK := hide (show OwnI 3 (wr.setCell ⟨g, k, none⟩ (.int .i64 (baseF d (xs.map cleanD) k - baseF d xs k))) w3.heap.size (some ⟨g4, 0, none⟩) n c4 (basesF d xs) from Own.far OK.out (fun a ha => by injection ha with ha; subst ha; show g4 ≠ g; have := LT.out _ rfl; simp at this; omega) _)
      have YK := hide (show Ext w (wr.setCell ⟨g, k, none⟩ (.int .i64 (baseF d (xs.map cleanD) k - baseF d xs k))) from Below.setCell HX.out (by show _ ≤ g; omega) _)
      generalize baseF d xs k = Z at *
      generalize baseF d (xs.map cleanD) k = Y at *
      have i1 : (k : Int) < n := by omega
      go_wp2
      generalize wr.setCell ⟨g, k, none⟩ (.int .i64 (Y - Z)) = w6 at *
      go_roundw
      case rel => exact ⟨k + 1, by omega, by go_num, ST.out, PK.out, YK.out⟩
      case measure => simp [intOf]; omega
    · have ek : n = k := by omega
      subst ek
      go_wp2
      go_ret2
      rw [HF.out]
      exact ⟨_, rfl, kI_of (OwnI.lower LK.out (by omega)), by show (lossN d xs n).length ≤ _; rw [lossN_len, hn.out]; omega, HX.out⟩
set_option maxRecDepth 100000 in
set_option maxHeartbeats 4000000 in
theorem s.MarkLosses_law (w : World) (v v' : Value) (d : CoD) (xs : List ItD) (h : kC.rd w v d) (hok : kC.ok d) (hx : kIt.rd w v' xs) (hok' : kIt.ok xs) :
    Calls Try.prog 16 #[v, v'] w fun e w' => ∃ v0, e = .returned (.tuple #[v0, .bool (lossLaw d xs).2]) ∧ kI.fr w' w.heap.size w'.heap.size v0 (lossLaw d xs).1 ∧ kI.ok (lossLaw d xs).1 ∧ Ext w w' := by
  obtain ⟨Ac, nc, cc, Al, nl, cl, r, b, p, f, rfl⟩ := kC.shape h
  obtain ⟨A, c, rfl, hl⟩ := kIt.lr hx
  have hw : wtL kdItem xs ≤ 1048576 := hok'
  have hlen := Nat.le_trans (wtL_len kdItem xs) hw
  have HR := hide h
  have HL := hide hl
  have a1 := hl.1; have a2 := hl.2.1
  have GD := hide (fun (wq : World) (xq : Ext w wq) => s.bsGood_m wq _ d A c w.heap.size xs (kC.rd_ext h xq) hok (hl.ext xq (Nat.le_refl _)) xq.size hlen (fun k x hk => Nat.le_trans (wtL_at kdItem xs k x hk) hw))
  have TOI := hide (fun (ho : LsOk d xs) (k : Nat) (x : ItD) (hk : xs[k]? = some x) (wq : World) (vs : List Value) (hr : kdItem.rd wq wq.heap.size vs x) => s.itClean_to wq vs x hr (Nat.le_trans (wtL_at kdItem xs k x hk) hw))
  obtain ⟨F, hF⟩ : ∃ F, Hid (lossLaw d xs = F) := ⟨_, rfl⟩
  rw [hF.out]
  clear h hx hl hok' hw
  obtain ⟨W0, hW0⟩ : ∃ W0, Hid (W0 = w.alloc (.cells #[.slice Ac nc cc, .slice Al nl cl, .int .i64 r, .int .i64 b, .int .i64 p, .int .i64 f] 27)) := ⟨_, rfl⟩
  have X0 : Hid (Ext w W0) := by rw [hW0.out]; exact Ext.alloc w _
  have B0 : Hid (Blk W0 w.heap.size #[.slice Ac nc cc, .slice Al nl cl, .int .i64 r, .int .i64 b, .int .i64 p, .int .i64 f] 27) := by rw [hW0.out]; exact Blk.new rfl _ _
  have BV := hide (fun (hd : CodeOk d) (ho : LsOk d xs) (wq : World) (xq : Ext w wq) => s.bsAll_m wq _ d A c w.heap.size xs (kC.rd_ext HR.out xq) hok hd (HL.out.ext xq (Nat.le_refl _)) xq.size ho)
  have BC := hide (fun (hd : CodeOk d) (ho : LsOk d xs) (wq : World) (xq : Ext w wq) (A' : Option Addr) (c' B' : Nat) (hl' : LR kdItem wq B' A' c' (xs.map cleanD)) (hB' : B' ≤ wq.heap.size) => s.bsAll_m wq _ d A' c' B' (xs.map cleanD) (kC.rd_ext HR.out xq) hok hd hl' hB' (clean_ls ho))
  obtain ⟨n, hn⟩ : ∃ n, Hid (xs.length = n) := ⟨_, rfl⟩
  rw [List.length_map] at BC
  rw [hn.out] at a1 hlen GD BV BC ⊢
  go_enter Try.func16, Try.ntmps16
  go_wp2_with fail
  rw [← hW0.out]
  clear hW0
  refine (GD.out W0 X0.out).mono ?_
  rintro e w1 ⟨rfl, x1⟩
  have X1 := hide (X0.out.trans x1)
  have B1 := hide (B0.out.ext x1)
  clear x1 GD X0
  cases hg : (codeB d && itemsB xs && knownB d.1 xs)
  · have HF : Hid (F = ([], false)) := by show _ = _; rw [← hF.out]; simp [lossLaw, hg]
    clear hg
    go_wp2
    go_ret2
    rw [HF.out]
    exact ⟨_, rfl, kI_nil _ _ _ (Nat.le_refl _), Nat.zero_le _, X1.out⟩
  have HF : Hid (F = (lossN d xs n, true)) := by show _ = _; rw [← hF.out, ← hn.out]; simp [lossLaw, hg]
  have hg2 := hg
  simp only [Bool.and_eq_true] at hg2
  have HC := hide (codeB_ok hg2.1.1)
  have HO := hide (lsOk hg2.1.2 hg2.2)
  have h14 := HO.out.n
  rw [hn.out] at h14
  clear hg hg2 hF
  have TO := hide (TOI.out HO.out)
  have BQ := hide (BC.out HC.out HO.out)
  have BK := hide (BV.out HC.out HO.out)
  clear TOI BC BV
  have Y1 := hide (Ext.refl w1)
  have N0 : Hid (LO kdItem 43 w1 none 0 ((xs.map cleanD).take 0) []) := LO.none_
  go_wp2
  go_loopw [6, 18] (fun o i0 wr => ∃ (k : Nat) (A' : Option Addr) (c' : Nat) (fp : List Nat), k ≤ n ∧ i0 = .int .i64 k ∧ o = .slice A' k c' ∧ LO kdItem 43 wr A' c' ((xs.map cleanD).take k) fp ∧ (∀ i ∈ fp, w1.heap.size ≤ i) ∧ Ext w1 wr) (fun _ i0 _ => n - (intOf i0).toNat)
  case atStart => exact ⟨0, _, _, _, Nat.zero_le _, rfl, rfl, N0.out, fun i hi => (by simp at hi), Y1.out⟩
  case round =>
    obtain ⟨k, A', c', fp, hk, rfl, rfl, hown, hfp, hx⟩ := hrel
    have HO1 := hide hown
    have HF1 := hide hfp
    have HX := hide hx
    clear hown hx hfp N0 Y1
    by_cases hlt : k < n
    · obtain ⟨x, hxk⟩ : ∃ x, Hid (xs[k]? = some x) := get_ex xs k (by rw [hn.out]; exact hlt)
      have z1 := X1.out.size
      obtain ⟨bb, off, A1, c1, A2, c2, rfl, hb, q0, q1, q2, r1, r2⟩ := (HL.out.ext (X1.out.trans HX.out) (Nat.le_refl _)).item k x hxk.out
      have sz := HX.out.size
      have hcap := HO1.out.cap
      obtain ⟨W1, hW1⟩ : ∃ W1, Hid (W1 = wr.alloc (.cells #[.slice A1 x.1.length c1, .slice A2 x.2.1.length c2, .bool x.2.2] 43)) := ⟨_, rfl⟩
      have x1 : Ext wr W1 := by rw [hW1.out]; exact Ext.alloc _ _
      have CB1 : Hid (Blk W1 wr.heap.size #[.slice A1 x.1.length c1, .slice A2 x.2.1.length c2, .bool x.2.2] 43) := by rw [hW1.out]; exact Blk.new rfl _ _
      have TK := hide (TO.out k x hxk.out W1 _ (kdItem.rd_more (B' := W1.heap.size) (kdItem.mk_ (r1.ext x1 (by omega)) (r2.ext x1 (by omega))) (by have := x1.size; omega)))
      have HK : Hid ((xs.map cleanD).take (k + 1) = (xs.map cleanD).take k ++ [cleanD x]) := by
        obtain ⟨hk', e⟩ := List.getElem?_eq_some_iff.1 hxk.out
        show _ = _
        rw [List.take_succ_eq_append_getElem (by simpa using hk'), List.getElem_map, e]
      have HLn : Hid (((xs.map cleanD).take k).length = k) := by show _ = _; rw [List.length_take, List.length_map, hn.out]; omega
      have LTt := hide HO1.out.lt
      replace HO1 := hide (HO1.out.ext x1)
      replace HX := hide (HX.out.trans x1)
      have sz1 := x1.size
      clear x1 r1 r2
      rw [kdItem.val3] at TK
      have cc := CB1.out.cell
      rw [hW1.out] at cc
      generalize x.1.length = m1 at *
      generalize x.2.1.length = m2 at *
      generalize x.2.2 = m3 at *
      go_wp2_with fail
      rw [← hW1.out]
      clear hW1 q0 q1 q2 cc
      refine TK.out.mono ?_
      rintro e w4 ⟨vs', f', rfl, ho', hf', x4⟩
      obtain ⟨A3, c3, A4, c4, rfl, _, _⟩ := kdItem.open_ (kdItem.own_rd ho')
      rw [kdItem.val3]
      have LO1 := hide ((HO1.out.ext x4).ext (Ext.alloc w4 (.cells #[.slice A3 (cleanD x).1.length c3, .slice A4 (cleanD x).2.1.length c4, .bool (cleanD x).2.2] 43)))
      have KO1 := hide (kdItem.own_ext ho' (Ext.alloc w4 (.cells #[.slice A3 (cleanD x).1.length c3, .slice A4 (cleanD x).2.1.length c4, .bool (cleanD x).2.2] 43)))
      have D2 := hide (item_src w4 (.slice A3 (cleanD x).1.length c3) (.slice A4 (cleanD x).2.1.length c4) (.bool (cleanD x).2.2) 43)
      have X4 := hide ((HX.out.trans x4).trans (Ext.alloc w4 (.cells #[.slice A3 (cleanD x).1.length c3, .slice A4 (cleanD x).2.1.length c4, .bool (cleanD x).2.2] 43)))
      have FL := hide hf'
      have sz4 := x4.size
      have b1 : (k + 1) * 56 ≤ 140737488355328 := by omega
      have b2 : k + 1 ≤ 4611686018427387904 := by omega
      clear ho' hf' x4 HO1 TK
      generalize (cleanD x).1.length = l1 at *
      generalize (cleanD x).2.1.length = l2 at *
      generalize (cleanD x).2.2 = l3 at *
      go_wp2_with (at_builtin; refine wpList_append_LO (K := kdItem) rfl (.tmp 22) (.tmp 25) rfl elemN_item (by decide) HLn.out.symm rfl rfl LO1.out KO1.out ?d1 D2.out b1 b2 ?_)
      case d1 => intro i hi hm; have := FL.out i hi; have := LTt.out i hm; omega
      intro A9 c9 w9 fp9 hap
      have HA := hide hap
      clear hap
      go_wp2
      go_roundw
      case rel =>
        refine ⟨k + 1, A9, c9, fp9, by omega, by go_num, rfl, by rw [HK.out]; exact HA.out.own, fun i hi => ?_, X4.out.tchF HA.out.tch HF1.out⟩
        have h5 := X4.out.size
        rcases HA.out.sub i hi with h | h | h
        · exact HF1.out i h
        · have := FL.out i h; omega
        · rw [h]; exact h5
      case measure => simp [intOf]; omega
    · have ek : n = k := by omega
      subst ek
      obtain ⟨wo, rfl⟩ : ∃ wo : World, wo = wr := ⟨_, rfl⟩
      have O2 : Hid (LO kdItem 43 wo A' c' (xs.map cleanD) fp) := by
        have h8 := HO1.out
        rwa [List.take_of_length_le (by rw [List.length_map, hn.out]; exact Nat.le_refl _)] at h8
      have X2 := hide (X1.out.trans HX.out)
      have B2 := hide (B1.out.ext HX.out)
      have ca := O2.out.cap
      rw [List.length_map, hn.out] at ca
      have ca1 := ca.1; have ca2 := ca.2
      have z1 := X1.out.size
      have Z2 := HX.out.size
      clear HO1 ca
      have cB := B2.out.cell
      go_wp2_with fail
      clear cB
      refine (BQ.out wo X2.out A' c' wo.heap.size O2.out.rd (Nat.le_refl _)).mono ?_
      rintro e w3 ⟨A3, c3, rfl, o3, x3⟩
      have O3 := hide o3
      have X3 := hide (X2.out.trans x3)
      have B3 := hide (B2.out.ext x3)
      have z9 := x3.size
      clear o3 x3
      have cB3 := B3.out.cell
      have L0 : Hid (OwnI 3 w3 wo.heap.size A3 n c3 (lossN d xs 0)) := by rw [← lossN_zero]; exact O3.out
      have oc1 := O3.out.capn; have oc2 := O3.out.capm
      have LT : Hid (∀ p, A3 = some p → p.block < w3.heap.size) := fun p hp => by
        rcases OwnI.form L0.out with ⟨h, _⟩ | ⟨g, h, _, h2, _⟩
        · rw [h] at hp; cases hp
        · rw [h] at hp; injection hp with hp; subst hp; exact h2
      clear O2 O3 BQ
      go_wp2_with fail
      clear cB3
      refine (BK.out w3 X3.out).mono ?_
      rintro e w4 ⟨A4, c4, rfl, o4, x4⟩
      have O4 := hide o4
      have od1 := o4.capn; have od2 := o4.capm
      have L4 : Hid (OwnI 3 w4 wo.heap.size A3 n c3 (lossN d xs 0)) := L0.out.below x4 (Nat.le_refl _)
      have X4 := hide (X3.out.trans x4)
      have z4 := x4.size
      clear L0 o4 x4 BK
      go_wp2
      go_loopw [35] (fun i wr => ∃ (j : Nat), j ≤ n ∧ i = .int .i64 j ∧ OwnI 3 wr wo.heap.size A3 n c3 (lossN d xs j) ∧ OwnI 3 wr w3.heap.size A4 n c4 (basesF d xs) ∧ Ext w wr) (fun i _ => n - (intOf i).toNat)
      case atStart => exact ⟨0, Nat.zero_le _, rfl, L4.out, O4.out, X4.out⟩
      case round =>
        obtain ⟨j, hj, rfl, ho, hb, hx⟩ := hrel
        clear L4 O4 X4
        have LK := hide ho
        have OK := hide hb
        have HX := hide hx
        clear ho hb hx
        by_cases hlj : j < n
        · obtain ⟨g, rfl, hg1, hg2, _⟩ := OwnI.pos LK.out (by omega)
          obtain ⟨g4, rfl, hh1, hh2, _⟩ := OwnI.pos OK.out (by omega)
          have cK := OwnI.cell OK.out j hlj
          rw [basesF_at (by rw [hn.out]; exact hlj)] at cK
          have cL := OwnI.cell LK.out j hlj
          rw [lossN_at (by rw [hn.out]; exact hlj)] at cL
          have fL := OwnI.free LK.out j
          have b1 := baseF_bd HC.out HO.out j
          have b2 := baseF_bd HC.out (clean_ls HO.out) j
          have ST := hide (loss_step hn.out hlj LK.out)
          have PK := hide (show OwnI 3 (wr.setCell ⟨g, j, none⟩ (.int .i64 (baseF d (xs.map cleanD) j - baseF d xs j))) w3.heap.size (some ⟨g4, 0, none⟩) n c4 (basesF d xs) from Own.far OK.out (fun a ha => by injection ha with ha; subst ha; show g4 ≠ g; have := LT.out _ rfl; simp at this; omega) _)
          have YK := hide (show Ext w (wr.setCell ⟨g, j, none⟩ (.int .i64 (baseF d (xs.map cleanD) j - baseF d xs j))) from Below.setCell HX.out (by show _ ≤ g; omega) _)
          generalize baseF d xs j = Z at *
          generalize baseF d (xs.map cleanD) j = Y at *
          have i1 : (j : Int) < n := by omega
          go_wp2
          generalize wr.setCell ⟨g, j, none⟩ (.int .i64 (Y - Z)) = w6 at *
          go_roundw
          case rel => exact ⟨j + 1, by omega, by go_num, ST.out, PK.out, YK.out⟩
          case measure => simp [intOf]; omega
        · have ej : n = j := by omega
          subst ej
          go_wp2
          go_ret2
          rw [HF.out]
          exact ⟨_, rfl, kI_of (OwnI.lower LK.out (by omega)), by show (lossN d xs n).length ≤ _; rw [lossN_len, hn.out]; omega, HX.out⟩
end Go.Proofs.Ytcngiipdffjkfaa
