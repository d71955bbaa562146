/- ReplaceGain by the reference. -/
import Derived.Test.YteachljlnekkgaaGreatZP
namespace Go.Proofs.YteachljlnekkgaaGreat
open Go.RowKit Go.Sort
set_option linter.unusedVariables false

set_option maxRecDepth 100000 in
set_option maxHeartbeats 20000000 in
theorem s.ReplaceGain_law (w : World) (v v1 : Value) (d : CoD) (xs : List ItD) (k : Int) (nm : List UInt8) (h : kC.rd w v d) (hok : kC.ok d) (hx : kIt.rd w v1 xs) (hox : kIt.ok xs) (hk : InR k) (hnm : nm.length ≤ 1048576) :
    Calls Tryz.prog 8 #[v, v1, .int .i64 k, .string (bs nm)] w fun e w' => e = .returned (.tuple #[.int .i64 (gainF d xs k nm).1, .bool (gainF d xs k nm).2]) ∧ Ext w w' := by
  obtain ⟨Ac, nc, cc, Al, nl, cl, rr, b, p, f, rfl⟩ := kC.shape h
  obtain ⟨A, c, rfl, hl⟩ := kIt.lr hx
  have hw : wtL kdItem xs ≤ 1048576 := hox
  have hlen := Nat.le_trans (wtL_len kdItem xs) hw
  have HR := hide h
  have HL := hide hl
  have a1 := hl.1; have a2 := hl.2.1
  obtain ⟨W0, hW0⟩ : ∃ W0, Hid (W0 = w.alloc (.cells #[.slice Ac nc cc, .slice Al nl cl, .int .i64 rr, .int .i64 b, .int .i64 p, .int .i64 f] 33)) := ⟨_, rfl⟩
  have X0 : Hid (Ext w W0) := by rw [hW0.out]; exact Ext.alloc w _
  have B0 : Hid (Blk W0 w.heap.size #[.slice Ac nc cc, .slice Al nl cl, .int .i64 rr, .int .i64 b, .int .i64 p, .int .i64 f] 33) := by rw [hW0.out]; exact Blk.new rfl _ _
  have PG := hide (fun (wq : World) (xq : Ext W0 wq) => s.pgGood_m wq _ d A c w.heap.size xs (kC.rd_ext h (X0.out.trans xq)) hok (hl.ext (X0.out.trans xq) (Nat.le_refl _)) (X0.out.trans xq).size hw)
  have CN := hide (fun (wq : World) => s.cdName_any nm wq (by omega))
  have GG := hide (gain_guard (d := d) (xs := xs) (k := k) (nm := nm)).1
  have PR := hide (fun (wq : World) (xq : Ext W0 wq) (hb : itemsB xs = true) (j : Nat) (hj : j < xs.length) (hx : nameB nm = true) => s.pnReplace_m wq A c w.heap.size xs j nm (HL.out.ext (X0.out.trans xq) (Nat.le_refl _)) (X0.out.trans xq).size hb hj hx)
  have P2 := hide (fun (wq : World) (xq : Ext W0 wq) (A9 : Option Addr) (c9 : Nat) (j : Nat) (h9 : LR kdItem wq wq.heap.size A9 c9 (replL xs j nm)) (h7 : wtL kdItem (replL xs j nm) ≤ 1048576) => s.pgGood_m wq _ d A9 c9 wq.heap.size _ (kC.rd_ext HR.out (X0.out.trans xq)) hok h9 (Nat.le_refl _) h7)
  have BL := hide (fun (hp : progB d xs = true) (wq : World) (xq : Ext W0 wq) => s.pnBase_m wq _ d A c w.heap.size xs (kC.rd_ext HR.out (X0.out.trans xq)) hok (HL.out.ext (X0.out.trans xq) (Nat.le_refl _)) (X0.out.trans xq).size (codeB_ok (progB_code hp).1) (progB_ls hp))
  have BR := hide (fun (j : Nat) (hc : codeB d = true) (hp : progB d (replL xs j nm) = true) (wq : World) (xq : Ext W0 wq) (A9 : Option Addr) (c9 : Nat) (h9 : LR kdItem wq wq.heap.size A9 c9 (replL xs j nm)) => s.pnBase_m wq _ d A9 c9 wq.heap.size _ (kC.rd_ext HR.out (X0.out.trans xq)) hok h9 (Nat.le_refl _) (codeB_ok hc) (progB_ls hp))
  have RL := hide (fun j => replL_len xs j nm)
  have GF : Hid (gainF d xs k nm = if progB d xs && inB 0 ((xs.length : Int) - 1) k && progB d (replL xs k.toNat nm) then (gainV d xs (replL xs k.toNat nm), true) else (0, false)) := rfl
  obtain ⟨F, hF⟩ : ∃ F, Hid (gainF d xs k nm = F) := ⟨_, rfl⟩
  rw [hF.out] at GF ⊢
  clear h hx hl hox hw
  obtain ⟨n, hn⟩ : ∃ n, Hid (xs.length = n) := ⟨_, rfl⟩
  rw [hn.out] at a1 hlen PG GG PR BL GF RL ⊢
  have cB := B0.out.cell
  rw [hW0.out] at cB
  obtain ⟨nb, hnb⟩ : ∃ nb, Hid (bs nm = nb) := ⟨_, rfl⟩
  rw [hnb.out] at CN PR ⊢
  cases hp : progB d xs
  · have HF : Hid (F = (0, false)) := by show _ = _; rw [GF.out, hp]; rfl
    rw [hp] at PG
    clear hp GG GF CN PR P2 BL BR RL
    go_enter Tryz.func8, Tryz.ntmps8
    go_wp2_with fail
    rw [← hW0.out]
    clear hW0 cB
    have c0_ := fun dd os => (B0.out.ext (ext_re W0 dd os)).cell
    have PE := hide (fun dd os => ext_regrown (PG.out (grow (redrawn W0 dd) os) (ext_re W0 dd os)))
    refine wp_region_quiet_below (by kernel_rfl) (by kernel_rfl) ?_
    repeat (go_big_quiet_step (exact PE.out _ _))
    refine wpQuiet_nil ?_
    intro _ hw'
    obtain ⟨⟨dq, osq⟩, hw''⟩ := hw'
    subst hw''
    have Y5 := hide (ext_re W0 dq osq)
    clear c0_
    generalize grow (redrawn W0 dq) osq = w5 at *
    go_wp2
    go_ret2
    rw [HF.out]
    exact ⟨rfl, X0.out.trans Y5.out⟩
  have kn : IntKind.i64.wrap ((n : Int) - 1) = (n : Int) - 1 := IntWalk.i64_in _ (by omega)
  have HP := hide hp
  rw [hp] at PG GG GF
  clear hp
  cases hi : inB 0 ((n : Int) - 1) k
  · have HF : Hid (F = (0, false)) := by show _ = _; rw [GF.out, hi]; rfl
    have IW := hide (fun wq => s.l1In_any k 0 ((n : Int) - 1) wq)
    rw [hi] at IW
    clear hi GG GF CN PR P2 BL BR RL
    go_enter Tryz.func8, Tryz.ntmps8
    go_wp2_with fail
    rw [← hW0.out]
    clear hW0 cB
    have c0_ := fun dd os => (B0.out.ext (ext_re W0 dd os)).cell
    have PE := hide (fun dd os => ext_regrown (PG.out (grow (redrawn W0 dd) os) (ext_re W0 dd os)))
    have IE := hide (fun dd os => ext_regrown (w := W0) (d := dd) (os := os) ((IW.out _).mono (fun e w' h => ⟨h.1, by rw [← h.2]; exact Ext.refl _⟩)))
    refine wp_region_quiet_below (by kernel_rfl) (by kernel_rfl) ?_
    repeat (go_big_quiet_step (first | exact IE.out _ _ | exact PE.out _ _))
    refine wpQuiet_nil ?_
    intro _ hw'
    obtain ⟨⟨dq, osq⟩, hw''⟩ := hw'
    subst hw''
    have Y5 := hide (ext_re W0 dq osq)
    clear c0_
    generalize grow (redrawn W0 dq) osq = w5 at *
    go_wp2
    go_ret2
    rw [HF.out]
    exact ⟨rfl, X0.out.trans Y5.out⟩
  have IW := hide (fun wq => s.l1In_any k 0 ((n : Int) - 1) wq)
  rw [hi] at IW GG GF
  obtain ⟨j, hj, hjn⟩ := inB_nat hi
  clear hi
  subst hj
  rw [Int.toNat_natCast] at GG GF
  cases hnB : nameB nm
  · have HF : Hid (F = (0, false)) := by
      have h8 := GG.out
      rw [hnB] at h8
      show _ = _
      rw [GF.out, ← h8]; rfl
    rw [hnB] at CN
    clear hnB GG GF PR P2 BL BR RL
    go_enter Tryz.func8, Tryz.ntmps8
    go_wp2_with fail
    rw [← hW0.out]
    clear hW0 cB
    have c0_ := fun dd os => (B0.out.ext (ext_re W0 dd os)).cell
    have PE := hide (fun dd os => ext_regrown (PG.out (grow (redrawn W0 dd) os) (ext_re W0 dd os)))
    have IE := hide (fun dd os => ext_regrown (w := W0) (d := dd) (os := os) ((IW.out _).mono (fun e w' h => ⟨h.1, by rw [← h.2]; exact Ext.refl _⟩)))
    have CE := hide (fun dd os => ext_regrown (w := W0) (d := dd) (os := os) ((CN.out _).mono (fun e w' h => ⟨h.1, by rw [← h.2]; exact Ext.refl _⟩)))
    refine wp_region_quiet_below (by kernel_rfl) (by kernel_rfl) ?_
    repeat (go_big_quiet_step (first | exact CE.out _ _ | exact IE.out _ _ | exact PE.out _ _))
    refine wpQuiet_nil ?_
    intro _ hw'
    obtain ⟨⟨dq, osq⟩, hw''⟩ := hw'
    subst hw''
    have Y5 := hide (ext_re W0 dq osq)
    clear c0_
    generalize grow (redrawn W0 dq) osq = w5 at *
    go_wp2
    go_ret2
    rw [HF.out]
    exact ⟨rfl, X0.out.trans Y5.out⟩
  have hcd := progB_code HP.out
  have WR := itemsB_wt1 (itemsB_repl (k := j) hcd.2 hnB)
  have PQ := hide (fun (wq : World) (xq : Ext W0 wq) => PR.out wq xq hcd.2 j hjn hnB)
  have P3 := hide (fun (wq : World) (xq : Ext W0 wq) (A9 : Option Addr) (c9 : Nat) (h9 : LR kdItem wq wq.heap.size A9 c9 (replL xs j nm)) => P2.out wq xq A9 c9 j h9 WR)
  have BQ := hide (BL.out HP.out)
  have UB := bases_sum (codeB_ok hcd.1) (progB_ls HP.out)
  have BW := hide (fun (hp : progB d (replL xs j nm) = true) => BR.out j hcd.1 hp)
  have UR := hide (fun (hp : progB d (replL xs j nm) = true) => bases_sum (codeB_ok hcd.1) (progB_ls hp))
  have RJ := hide (RL.out j)
  have GV : Hid (gainV d xs (replL xs j nm) = (basesF d (replL xs j nm)).sum - (basesF d xs).sum) := rfl
  rw [hnB] at CN
  clear hnB PR P2 BL BR RL GG hcd WR
  obtain ⟨R, hR⟩ : ∃ R, Hid (replL xs j nm = R) := ⟨_, rfl⟩
  rw [hR.out] at PQ P3 BW UR GF GV RJ
  rw [RJ.out] at P3 BW
  cases hq : progB d R
  · have HF : Hid (F = (0, false)) := by show _ = _; rw [GF.out, hq]; rfl
    rw [hq] at P3
    clear hq BQ UB BW UR GV GF
    go_enter Tryz.func8, Tryz.ntmps8
    go_wp2_with fail
    rw [← hW0.out]
    clear hW0 cB
    go_region_held3 (fun w' => ∀ i, w'.cell? ⟨w.heap.size, i, none⟩ = #[Value.slice Ac nc cc, .slice Al nl cl, .int .i64 rr, .int .i64 b, .int .i64 p, .int .i64 f][i]?)
      (first
        | with_reducible exact (B0.out.ext Y8.out).cell
        | with_reducible exact (B0.out.ext Y7.out).cell
        | with_reducible exact (B0.out.ext Y5.out).cell
        | with_reducible exact (B0.out.ext (Ext.drew _)).cell)
      (first
        | (go_at_call 24; refine (P3.out w7 Y7.out A7 c7 L7.out).mono ?_; rintro e w8 ⟨rfl, x8⟩; have Y8 := hide (Y7.out.trans x8); clear x8)
        | (go_at_call 27; refine (PQ.out w5 Y5.out).mono ?_; rintro e w7 ⟨A7, c7, fp7, rfl, o7, f7, x7⟩; have L7 := hide o7.rd; have Y7 := hide (Y5.out.trans x7); have ca7 := L7.out.1; rw [RJ.out] at ca7; have cb7 := L7.out.2.1; clear o7 f7 x7)
        | (go_at_call 26; refine (CN.out _).mono ?_; rintro e w6 ⟨rfl, rfl⟩)
        | (go_at_call 25; refine (IW.out _).mono ?_; rintro e w6 ⟨rfl, rfl⟩)
        | (go_at_call 24; refine (PG.out W0.drew (Ext.drew _)).mono ?_; rintro e w5 ⟨rfl, x5⟩; have Y5 := hide ((Ext.drew W0).trans x5); clear x5))
    go_wp2
    go_ret2
    rw [HF.out]
    exact ⟨rfl, X0.out.trans Y8.out⟩
  have HF : Hid (F = ((basesF d R).sum - (basesF d xs).sum, true)) := by show _ = _; rw [GF.out, hq, ← GV.out]; rfl
  have BX := hide (BW.out hq)
  have UQ := UR.out hq
  rw [hq] at P3
  clear hq BW UR GV GF
  generalize (basesF d R).sum = s1 at *
  generalize (basesF d xs).sum = s2 at *
  have kw : IntKind.i64.wrap (s1 - s2) = s1 - s2 := IntWalk.i64_in _ (by omega)
  go_enter Tryz.func8, Tryz.ntmps8
  go_wp2_with fail
  rw [← hW0.out]
  clear hW0 cB
  go_region_held3 (fun w' => ∀ i, w'.cell? ⟨w.heap.size, i, none⟩ = #[Value.slice Ac nc cc, .slice Al nl cl, .int .i64 rr, .int .i64 b, .int .i64 p, .int .i64 f][i]?)
    (first
      | with_reducible exact (B0.out.ext Y8.out).cell
      | with_reducible exact (B0.out.ext Y7.out).cell
      | with_reducible exact (B0.out.ext Y5.out).cell
      | with_reducible exact (B0.out.ext (Ext.drew _)).cell)
    (first
      | (go_at_call 24; refine (P3.out w7 Y7.out A7 c7 L7.out).mono ?_; rintro e w8 ⟨rfl, x8⟩; have Y8 := hide (Y7.out.trans x8); clear x8)
      | (go_at_call 27; refine (PQ.out w5 Y5.out).mono ?_; rintro e w7 ⟨A7, c7, fp7, rfl, o7, f7, x7⟩; have L7 := hide o7.rd; have Y7 := hide (Y5.out.trans x7); have ca7 := L7.out.1; rw [RJ.out] at ca7; have cb7 := L7.out.2.1; clear o7 f7 x7)
      | (go_at_call 26; refine (CN.out _).mono ?_; rintro e w6 ⟨rfl, rfl⟩)
      | (go_at_call 25; refine (IW.out _).mono ?_; rintro e w6 ⟨rfl, rfl⟩)
      | (go_at_call 24; refine (PG.out W0.drew (Ext.drew _)).mono ?_; rintro e w5 ⟨rfl, x5⟩; have Y5 := hide ((Ext.drew W0).trans x5); clear x5))
  have cD := (B0.out.ext Y8.out).cell
  go_wp2_with fail
  go_region_held3 (fun w' => ∀ i, w'.cell? ⟨w.heap.size, i, none⟩ = #[Value.slice Ac nc cc, .slice Al nl cl, .int .i64 rr, .int .i64 b, .int .i64 p, .int .i64 f][i]?)
    (first
      | with_reducible exact (B0.out.ext Y12.out).cell
      | with_reducible exact (B0.out.ext Y11.out).cell
      | with_reducible exact (B0.out.ext Y10.out).cell
      | with_reducible exact (B0.out.ext (Y8.out.trans (Ext.drew _))).cell)
    (first
      | (go_at_call 28; refine (BQ.out w11 Y11.out).mono ?_; rintro e w12 ⟨rfl, x12⟩; have Y12 := hide (Y11.out.trans x12); clear x12)
      | (go_at_call 28; refine (BX.out w10 Y10.out A10 c10 L10.out).mono ?_; rintro e w11 ⟨rfl, x11⟩; have Y11 := hide (Y10.out.trans x11); clear x11)
      | (go_at_call 27; refine (PQ.out w8.drew (Y8.out.trans (Ext.drew _))).mono ?_; rintro e w10 ⟨A10, c10, fp10, rfl, o10, f10, x10⟩; have L10 := hide o10.rd; have Y10 := hide ((Y8.out.trans (Ext.drew w8)).trans x10); clear o10 f10 x10))
  go_wp2
  go_ret2
  rw [HF.out]
  exact ⟨rfl, X0.out.trans Y12.out⟩
end Go.Proofs.YteachljlnekkgaaGreat
