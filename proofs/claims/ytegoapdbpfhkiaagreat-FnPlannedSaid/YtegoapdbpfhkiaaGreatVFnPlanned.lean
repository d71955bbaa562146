/- The walk of FnPlanned: a drawn code; the best single programme, its names, its base, the counts and the bound; a second code's most singles. (Printed by pr.py.) -/
import Derived.Test.YtegoapdbpfhkiaaGreatFQ
import Derived.Deep.DeepCutAuto
namespace Go.Proofs.YtegoapdbpfhkiaaGreat
open Go.RowKit Go.Sort
set_option linter.unusedVariables false

set_option maxRecDepth 100000 in
set_option maxHeartbeats 20000000 in
theorem FnPlanned_walk (a0 : Option Addr) (n0 c0 : Nat) (a1 : Option Addr) (n1 c1 : Nat) (w : World) (h0 : ArgB w a0 n0 c0) (h1 : ArgB w a1 n1 c1) :
    Calls Tryz.prog 3 #[.slice a0 n0 c0, .slice a1 n1 c1] w fun e w' => e = .returned (.bool true) ∧ Ext w w' := by
  have p0 := h0.cap; have p0' := h0.capm; have p1 := h1.cap; have p1' := h1.capm
  have H0 := hide h0
  have H1 := hide h1
  clear h0 h1
  obtain ⟨sm, hsm⟩ : ∃ sm, Hid (IntKind.i64.wrap ((n0 : Int) + n1) = sm) := ⟨_, rfl⟩
  have X := hide (Ext.refl w)
  go_enter Tryz.func3, Tryz.ntmps3
  go_wp2_with fail
  · go_ret
    exact ⟨rfl, X.out⟩
  clear hsm p0 p0' p1 p1'
  refine (s.DrawBestSingles_m w _ _ _ H0.out).mono ?_
  rintro e w1 ⟨a1, am1, ad1, a2, am2, ad2, ar, ab, ak, af, nz, rfl, z0, z1, hc, x1⟩
  replace X := hide (X.out.trans x1)
  replace H1 := hide (H1.out.ext x1)
  clear x1
  obtain ⟨d, dw⟩ := dc_of hc
  have DX := hide dw
  clear hc dw H0
  have HN : Hid (InR nz) := ⟨by omega, by omega⟩
  obtain ⟨G, hG⟩ : ∃ G, Hid ((bestF d nz).2 = G) := ⟨_, rfl⟩
  obtain ⟨w2, hW⟩ : ∃ W, Hid (W = w1.alloc (.cells #[.slice a1 am1 ad1, .slice a2 am2 ad2, .int .i64 ar, .int .i64 ab, .int .i64 ak, .int .i64 af] 26)) := ⟨_, rfl⟩
  have xa : Ext w1 w2 := by rw [hW.out]; exact Ext.alloc _ _
  obtain ⟨gP5, hg⟩ : ∃ g, Hid (g = w1.heap.size) := ⟨_, rfl⟩
  have P5 : Hid (Blk w2 gP5 #[.slice a1 am1 ad1, .slice a2 am2 ad2, .int .i64 ar, .int .i64 ab, .int .i64 ak, .int .i64 af] 26) := by rw [hW.out, hg.out]; exact Blk.new rfl _ _
  replace X := hide (X.out.trans xa)
  replace H1 := hide (H1.out.ext xa)
  replace DX := hide (DX.out.ext xa)
  clear xa
  go_wp2_with fail
  rw [← hW.out, ← hg.out]
  clear hW hg
  refine (DX.out.iSng HN.out hG.out).mono ?_
  rintro e w3 ⟨A7, n7, c7, rfl, e7, dy7, x1⟩
  replace X := hide (X.out.trans x1)
  replace H1 := hide (H1.out.ext x1)
  replace DX := hide (DX.out.ext x1)
  replace P5 := hide (P5.out.ext x1)
  clear x1
  have DY7 := hide dy7
  have E7 := hide e7
  clear dy7 e7
  have qP5 := P5.out.cell
  have lP5 := P5.out.lt
  go_wp2_with fail
  clear qP5 lP5
  refine (DX.out.sSng HN.out hG.out).mono ?_
  rintro e w4 ⟨A9, n9, c9, rfl, e9, dy9, x1⟩
  replace X := hide (X.out.trans x1)
  replace H1 := hide (H1.out.ext x1)
  replace DX := hide (DX.out.ext x1)
  replace P5 := hide (P5.out.ext x1)
  replace DY7 := hide (DY7.out.ext x1)
  clear x1
  have DY9 := hide dy9
  have E9 := hide e9
  clear dy9 e9
  obtain rfl : n7 = n9 := by rw [← E7.out, ← E9.out]
  clear E9
  have qP5 := P5.out.cell
  have lP5 := P5.out.lt
  go_wp2_with fail
  clear qP5 lP5
  refine (DX.out.iNam HN.out hG.out).mono ?_
  rintro e w5 ⟨A11, n11, c11, rfl, e11, nu11, x1⟩
  replace X := hide (X.out.trans x1)
  replace H1 := hide (H1.out.ext x1)
  replace DX := hide (DX.out.ext x1)
  replace P5 := hide (P5.out.ext x1)
  replace DY7 := hide (DY7.out.ext x1)
  replace DY9 := hide (DY9.out.ext x1)
  clear x1
  have S11 := hide nu11
  have E11 := hide e11
  clear nu11 e11
  have qP5 := P5.out.cell
  have lP5 := P5.out.lt
  go_wp2_with fail
  clear qP5 lP5
  refine (DX.out.sNam HN.out hG.out).mono ?_
  rintro e w6 ⟨A13, n13, c13, rfl, e13, nu13, x1⟩
  replace X := hide (X.out.trans x1)
  replace H1 := hide (H1.out.ext x1)
  replace DX := hide (DX.out.ext x1)
  replace P5 := hide (P5.out.ext x1)
  replace DY7 := hide (DY7.out.ext x1)
  replace DY9 := hide (DY9.out.ext x1)
  replace S11 := hide (S11.out.ext x1)
  clear x1
  have S13 := hide nu13
  have E13 := hide e13
  clear nu13 e13
  obtain rfl : n11 = n13 := by rw [← E11.out, ← E13.out]
  clear E13
  have qP5 := P5.out.cell
  have lP5 := P5.out.lt
  go_wp2_with fail
  clear qP5 lP5
  obtain ⟨SB, hSB⟩ : ∃ z, Hid ((sbF d nz).1 = z) := ⟨_, rfl⟩
  have OI := hide (DX.out.iSB HN.out hG.out)
  rw [hSB.out] at OI
  refine (OI.out).mono ?_
  rintro e w7 ⟨rfl, x1⟩
  replace X := hide (X.out.trans x1)
  replace H1 := hide (H1.out.ext x1)
  replace DX := hide (DX.out.ext x1)
  replace P5 := hide (P5.out.ext x1)
  replace DY7 := hide (DY7.out.ext x1)
  replace DY9 := hide (DY9.out.ext x1)
  replace S11 := hide (S11.out.ext x1)
  replace S13 := hide (S13.out.ext x1)
  clear x1
  clear OI
  have qP5 := P5.out.cell
  have lP5 := P5.out.lt
  go_wp2_with fail
  clear qP5 lP5
  have OI := hide (DX.out.sSB HN.out hG.out)
  rw [hSB.out] at OI
  refine (OI.out).mono ?_
  rintro e w8 ⟨rfl, x1⟩
  replace X := hide (X.out.trans x1)
  replace H1 := hide (H1.out.ext x1)
  replace DX := hide (DX.out.ext x1)
  replace P5 := hide (P5.out.ext x1)
  replace DY7 := hide (DY7.out.ext x1)
  replace DY9 := hide (DY9.out.ext x1)
  replace S11 := hide (S11.out.ext x1)
  replace S13 := hide (S13.out.ext x1)
  clear x1
  clear OI
  have qP5 := P5.out.cell
  have lP5 := P5.out.lt
  go_wp2_with fail
  clear qP5 lP5
  obtain ⟨C1, hC1⟩ : ∃ z, Hid ((countF d nz).1 = z) := ⟨_, rfl⟩
  obtain ⟨C2, hC2⟩ : ∃ z, Hid ((countF d nz).2 = z) := ⟨_, rfl⟩
  have OI := hide (DX.out.iCnt HN.out)
  rw [hC1.out, hC2.out] at OI
  refine (OI.out).mono ?_
  rintro e w9 ⟨rfl, x1⟩
  replace X := hide (X.out.trans x1)
  replace H1 := hide (H1.out.ext x1)
  replace DX := hide (DX.out.ext x1)
  replace P5 := hide (P5.out.ext x1)
  replace DY7 := hide (DY7.out.ext x1)
  replace DY9 := hide (DY9.out.ext x1)
  replace S11 := hide (S11.out.ext x1)
  replace S13 := hide (S13.out.ext x1)
  clear x1
  clear OI
  have qP5 := P5.out.cell
  have lP5 := P5.out.lt
  go_wp2_with fail
  clear qP5 lP5
  have OI := hide (DX.out.sCnt HN.out)
  rw [hC1.out, hC2.out] at OI
  refine (OI.out).mono ?_
  rintro e w10 ⟨rfl, x1⟩
  replace X := hide (X.out.trans x1)
  replace H1 := hide (H1.out.ext x1)
  replace DX := hide (DX.out.ext x1)
  replace P5 := hide (P5.out.ext x1)
  replace DY7 := hide (DY7.out.ext x1)
  replace DY9 := hide (DY9.out.ext x1)
  replace S11 := hide (S11.out.ext x1)
  replace S13 := hide (S13.out.ext x1)
  clear x1
  clear OI
  have qP5 := P5.out.cell
  have lP5 := P5.out.lt
  go_wp2_with fail
  clear qP5 lP5
  obtain ⟨B1, hB1⟩ : ∃ z, Hid ((planF d nz).1 = z) := ⟨_, rfl⟩
  obtain ⟨B2, hB2⟩ : ∃ z, Hid ((planF d nz).2 = z) := ⟨_, rfl⟩
  have OI := hide (DX.out.iPlan HN.out)
  rw [hB1.out, hB2.out] at OI
  refine (OI.out).mono ?_
  rintro e w11 ⟨rfl, x1⟩
  replace X := hide (X.out.trans x1)
  replace H1 := hide (H1.out.ext x1)
  replace DX := hide (DX.out.ext x1)
  replace P5 := hide (P5.out.ext x1)
  replace DY7 := hide (DY7.out.ext x1)
  replace DY9 := hide (DY9.out.ext x1)
  replace S11 := hide (S11.out.ext x1)
  replace S13 := hide (S13.out.ext x1)
  clear x1
  clear OI
  have qP5 := P5.out.cell
  have lP5 := P5.out.lt
  go_wp2_with fail
  clear qP5 lP5
  have OI := hide (DX.out.sPlan HN.out)
  rw [hB1.out, hB2.out] at OI
  refine (OI.out).mono ?_
  rintro e w12 ⟨rfl, x1⟩
  replace X := hide (X.out.trans x1)
  replace H1 := hide (H1.out.ext x1)
  replace DX := hide (DX.out.ext x1)
  replace P5 := hide (P5.out.ext x1)
  replace DY7 := hide (DY7.out.ext x1)
  replace DY9 := hide (DY9.out.ext x1)
  replace S11 := hide (S11.out.ext x1)
  replace S13 := hide (S13.out.ext x1)
  clear x1
  clear OI
  go_wp2_with fail
  refine (s.DrawMostSingles_m _ _ _ _ H1.out).mono ?_
  rintro e w13 ⟨z1, zm1, zd1, z2, zm2, zd2, zr, zb, zk, zf, rfl, hc, x1⟩
  replace X := hide (X.out.trans x1)
  replace H1 := hide (H1.out.ext x1)
  replace DX := hide (DX.out.ext x1)
  replace P5 := hide (P5.out.ext x1)
  replace DY7 := hide (DY7.out.ext x1)
  replace DY9 := hide (DY9.out.ext x1)
  replace S11 := hide (S11.out.ext x1)
  replace S13 := hide (S13.out.ext x1)
  clear x1
  obtain ⟨d2, dw2⟩ := dc_of hc
  have DZ := hide dw2
  clear hc dw2
  clear H1
  obtain ⟨w14, hW⟩ : ∃ W, Hid (W = w13.alloc (.cells #[.slice z1 zm1 zd1, .slice z2 zm2 zd2, .int .i64 zr, .int .i64 zb, .int .i64 zk, .int .i64 zf] 26)) := ⟨_, rfl⟩
  have xa : Ext w13 w14 := by rw [hW.out]; exact Ext.alloc _ _
  obtain ⟨gP27, hg⟩ : ∃ g, Hid (g = w13.heap.size) := ⟨_, rfl⟩
  have P27 : Hid (Blk w14 gP27 #[.slice z1 zm1 zd1, .slice z2 zm2 zd2, .int .i64 zr, .int .i64 zb, .int .i64 zk, .int .i64 zf] 26) := by rw [hW.out, hg.out]; exact Blk.new rfl _ _
  replace X := hide (X.out.trans xa)
  replace DX := hide (DX.out.ext xa)
  replace P5 := hide (P5.out.ext xa)
  replace DY7 := hide (DY7.out.ext xa)
  replace DY9 := hide (DY9.out.ext xa)
  replace S11 := hide (S11.out.ext xa)
  replace S13 := hide (S13.out.ext xa)
  replace DZ := hide (DZ.out.ext xa)
  clear xa
  go_wp2_with fail
  rw [← hW.out, ← hg.out]
  clear hW hg
  obtain ⟨s1, hs1⟩ : ∃ z, Hid ((singF d2).1 = z) := ⟨_, rfl⟩
  obtain ⟨s2, hs2⟩ : ∃ z, Hid ((singF d2).2 = z) := ⟨_, rfl⟩
  have OI := hide (DZ.out.iMost)
  rw [hs1.out, hs2.out] at OI
  refine (OI.out).mono ?_
  rintro e w15 ⟨rfl, x1⟩
  replace X := hide (X.out.trans x1)
  replace DX := hide (DX.out.ext x1)
  replace P5 := hide (P5.out.ext x1)
  replace DY7 := hide (DY7.out.ext x1)
  replace DY9 := hide (DY9.out.ext x1)
  replace S11 := hide (S11.out.ext x1)
  replace S13 := hide (S13.out.ext x1)
  replace DZ := hide (DZ.out.ext x1)
  replace P27 := hide (P27.out.ext x1)
  clear x1
  clear OI
  have qP27 := P27.out.cell
  have lP27 := P27.out.lt
  go_wp2_with fail
  clear qP27 lP27
  have OI := hide (DZ.out.sMost)
  rw [hs1.out, hs2.out] at OI
  refine (OI.out).mono ?_
  rintro e w16 ⟨rfl, x1⟩
  replace X := hide (X.out.trans x1)
  replace DX := hide (DX.out.ext x1)
  replace P5 := hide (P5.out.ext x1)
  replace DY7 := hide (DY7.out.ext x1)
  replace DY9 := hide (DY9.out.ext x1)
  replace S11 := hide (S11.out.ext x1)
  replace S13 := hide (S13.out.ext x1)
  replace DZ := hide (DZ.out.ext x1)
  replace P27 := hide (P27.out.ext x1)
  clear x1
  clear OI
  have e1 : (G != G) = false := by simp
  have e2 : (SB != SB) = false := by simp
  have e3 : (C2 != C2) = false := by simp
  have e4 : (C1 != C1) = false := by simp
  have e5 : (B2 != B2) = false := by simp
  have e6 : (B1 != B1) = false := by simp
  have e7 : (s2 != s2) = false := by simp
  have e8 : (s1 != s1) = false := by simp
  have n11b : n11 ≤ 1048576 := by have := namS_len d nz; have := E11.out; omega
  go_wp2_with fail
  refine (DY7.out.same DY9.out E7.out).mono ?_
  rintro e w17 ⟨rfl, x1⟩
  replace X := hide (X.out.trans x1)
  replace DX := hide (DX.out.ext x1)
  replace P5 := hide (P5.out.ext x1)
  replace DY7 := hide (DY7.out.ext x1)
  replace DY9 := hide (DY9.out.ext x1)
  replace S11 := hide (S11.out.ext x1)
  replace S13 := hide (S13.out.ext x1)
  replace DZ := hide (DZ.out.ext x1)
  replace P27 := hide (P27.out.ext x1)
  clear x1
  go_wp2_with fail
  refine (S11.out.same S13.out n11b).mono ?_
  rintro e w18 ⟨rfl, x1⟩
  replace X := hide (X.out.trans x1)
  replace DX := hide (DX.out.ext x1)
  replace P5 := hide (P5.out.ext x1)
  replace DY7 := hide (DY7.out.ext x1)
  replace DY9 := hide (DY9.out.ext x1)
  replace S11 := hide (S11.out.ext x1)
  replace S13 := hide (S13.out.ext x1)
  replace DZ := hide (DZ.out.ext x1)
  replace P27 := hide (P27.out.ext x1)
  clear x1
  clear S11
  clear n11b
  go_upto_region 19 with fail
  clear e1 e2 e3 e4 e5 e6 e7 e8
  go_cut [199] (fun s199 wx => ∃ Q, s199 = .bool Q ∧ (Q = true → s2 = true ∧ 0 < s1) ∧ Ext w18 wx)
  case first =>
    cases s2
    · go_wp2
      go_meet
      exact ⟨false, rfl, by simp, Ext.refl _⟩
    · by_cases ho : 0 < s1
      · go_wp2
        go_meet
        exact ⟨true, rfl, fun _ => ⟨rfl, ho⟩, Ext.refl _⟩
      · go_wp2
        go_meet
        exact ⟨false, rfl, by simp, Ext.refl _⟩
  case rest =>
    obtain ⟨Q, rfl, hQ, xc⟩ := hcut
    replace X := hide (X.out.trans xc)
    replace DX := hide (DX.out.ext xc)
    replace P5 := hide (P5.out.ext xc)
    replace DY7 := hide (DY7.out.ext xc)
    replace DY9 := hide (DY9.out.ext xc)
    replace S13 := hide (S13.out.ext xc)
    replace DZ := hide (DZ.out.ext xc)
    replace P27 := hide (P27.out.ext xc)
    clear xc
    go_upto_if 199 with fail
    go_cut [] (fun wx => Ext wc wx)
    case first =>
      as_aux_lemma =>
      cases Q
      · go_wp2
        go_meet
        exact Ext.refl _
      · obtain ⟨e2, hlt⟩ := hQ rfl
        have hm := most_best (d := d2) (by rw [hs2.out, e2]) (by rw [hs1.out]; exact hlt)
        have hbd := sing_bd d2
        rw [hs1.out] at hm hbd
        have M1 := hide hm.1
        have M2 := hide hm.2
        clear hm e2 hQ
        obtain ⟨b0, b1⟩ := hbd
        have XC := hide (Ext.refl wc)
        have qP27 := P27.out.cell
        have lP27 := P27.out.lt
        go_wp2_with fail
        clear qP27 lP27
        refine (DZ.out.iNam ⟨by omega, by omega⟩ M1.out).mono ?_
        rintro e w19 ⟨A32, n32, c32, rfl, -, -, x1⟩
        replace XC := hide (XC.out.trans x1)
        replace DZ := hide (DZ.out.ext x1)
        replace P27 := hide (P27.out.ext x1)
        clear x1
        by_cases h14 : s1 < 14
        · have M3 := hide (M2.out h14)
          have qP27 := P27.out.cell
          have lP27 := P27.out.lt
          go_wp2_with fail
          clear qP27 lP27
          refine (DZ.out.iNam ⟨by omega, by omega⟩ M3.out).mono ?_
          rintro e w20 ⟨A34, n34, c34, rfl, -, -, x1⟩
          replace XC := hide (XC.out.trans x1)
          replace DZ := hide (DZ.out.ext x1)
          replace P27 := hide (P27.out.ext x1)
          clear x1
          go_wp2
          go_meet
          exact XC.out
        · go_wp2
          go_meet
          exact XC.out
    case rest =>
      have xc := hcut
      replace X := hide (X.out.trans xc)
      replace DX := hide (DX.out.ext xc)
      replace P5 := hide (P5.out.ext xc)
      replace DY7 := hide (DY7.out.ext xc)
      replace DY9 := hide (DY9.out.ext xc)
      replace S13 := hide (S13.out.ext xc)
      replace DZ := hide (DZ.out.ext xc)
      replace P27 := hide (P27.out.ext xc)
      clear xc hcut hQ
      clear DZ P27
      clear hs1 hs2
      cases G
      · cases C2
        · go_wp2
          go_ret
          exact ⟨rfl, X.out⟩
        · have hc := count_best (d := d) (n := nz) hC2.out
          rw [hC1.out, hG.out] at hc
          have hp : ¬ 0 < C1 := of_decide_eq_false hc
          clear hc
          go_wp2
          go_ret
          exact ⟨rfl, X.out⟩
      have hc2 := count_ok d nz hG.out
      rw [hC2.out] at hc2
      subst hc2
      have hc := count_best (d := d) (n := nz) hC2.out
      rw [hC1.out, hG.out] at hc
      have hp : 0 < C1 := of_decide_eq_true hc
      clear hc
      obtain ⟨y1, y2, y3, y4, y5, y6, y7⟩ := plan_yes hG.out
      rw [hSB.out] at y4 y7
      rw [hB1.out] at y7
      rw [hB2.out] at y6
      rw [E11.out] at y5
      have Y1 := hide y1
      have Y3 := hide y3
      have Y4 := hide y4
      subst y6
      have ze : ((n11 : Int) == nz) = true := by rw [y5]; simp
      have hle : SB ≤ B1 := y7
      have zs : (SB == SB) = true := by simp
      clear y1 y2 y3 y4 y5 y7
      have OI := hide (DY7.out.iProg E7.out)
      rw [prog_law Y1.out] at OI
      have qP5 := P5.out.cell
      have lP5 := P5.out.lt
      go_wp2_with fail
      clear qP5 lP5
      refine (OI.out).mono ?_
      rintro e w21 ⟨rfl, x1⟩
      replace X := hide (X.out.trans x1)
      replace DX := hide (DX.out.ext x1)
      replace P5 := hide (P5.out.ext x1)
      replace DY7 := hide (DY7.out.ext x1)
      replace DY9 := hide (DY9.out.ext x1)
      replace S13 := hide (S13.out.ext x1)
      clear x1
      clear OI
      have OI := hide (DY7.out.iPB E7.out)
      rw [prog_base Y1.out, ← Y4.out] at OI
      have qP5 := P5.out.cell
      have lP5 := P5.out.lt
      go_wp2_with fail
      clear qP5 lP5
      refine (OI.out).mono ?_
      rintro e w22 ⟨rfl, x1⟩
      replace X := hide (X.out.trans x1)
      replace DX := hide (DX.out.ext x1)
      replace P5 := hide (P5.out.ext x1)
      replace DY7 := hide (DY7.out.ext x1)
      replace DY9 := hide (DY9.out.ext x1)
      replace S13 := hide (S13.out.ext x1)
      clear x1
      clear OI
      have OI := hide (DY7.out.iOrd E7.out)
      rw [Y3.out] at OI
      have qP5 := P5.out.cell
      have lP5 := P5.out.lt
      go_wp2_with fail
      clear qP5 lP5
      refine (OI.out).mono ?_
      rintro e w23 ⟨A40, n40, c40, rfl, e40, dy40, x1⟩
      replace X := hide (X.out.trans x1)
      replace DX := hide (DX.out.ext x1)
      replace P5 := hide (P5.out.ext x1)
      replace DY7 := hide (DY7.out.ext x1)
      replace DY9 := hide (DY9.out.ext x1)
      replace S13 := hide (S13.out.ext x1)
      clear x1
      clear OI
      have DY40 := hide dy40
      obtain rfl : n7 = n40 := by rw [← E7.out]; exact e40
      clear dy40 e40
      have cp := S13.out.cap; have cpm := S13.out.capm
      go_wp2_with fail
      refine (DY40.out.same DY9.out E7.out).mono ?_
      rintro e w24 ⟨rfl, x1⟩
      replace X := hide (X.out.trans x1)
      replace DX := hide (DX.out.ext x1)
      replace P5 := hide (P5.out.ext x1)
      replace DY7 := hide (DY7.out.ext x1)
      replace DY9 := hide (DY9.out.ext x1)
      replace S13 := hide (S13.out.ext x1)
      replace DY40 := hide (DY40.out.ext x1)
      clear x1
      go_wp2
      go_ret
      exact ⟨rfl, X.out⟩
end Go.Proofs.YtegoapdbpfhkiaaGreat
