/- The walk of FnScores: drawn marks; scores of items, their sum, the best item; grade points. (Printed by sr.py.) -/
import Derived.Test.YtaoeomgehpdedaaGreatHE
import Derived.Deep.DeepCutAuto
namespace Go.Proofs.YtaoeomgehpdedaaGreat
open Go.RowKit Go.Sort
set_option linter.unusedVariables false

set_option maxRecDepth 100000 in
set_option maxHeartbeats 20000000 in
theorem FnScores_walk (a0 : Option Addr) (n0 c0 : Nat) (a1 : Option Addr) (n1 c1 : Nat) (w : World) (h0 : ArgB w a0 n0 c0) (h1 : ArgB w a1 n1 c1) :
    Calls Tryz.prog 3 #[.slice a0 n0 c0, .slice a1 n1 c1] w fun e w' => e = .returned (.bool true) ∧ Ext w w' := by
  have p0 := h0.cap; have p0' := h0.capm; have p1 := h1.cap; have p1' := h1.capm
  have H0 := hide h0
  have H1 := hide h1
  clear h0 h1
  obtain ⟨sm, hsm⟩ : ∃ sm, Hid (IntKind.i64.wrap ((n0 : Int) + n1) = sm) := ⟨_, rfl⟩
  have X := hide (Ext.refl w)
  go_enter Tryz.func3, Tryz.ntmps3
  go_wp2_with fail
  · go_ret
    exact ⟨rfl, X.out⟩
  clear hsm p0 p0' p1 p1'
  refine (s.DrawItemScores_m w _ _ _ H0.out).mono ?_
  rintro e w1 ⟨a1, am1, ad1, a2, am2, ad2, ar, ab, ak, af, A, n, c, Mg, Mng, Mcg, Mc, Mnc, Mcc, md, rfl, n15, hc, hl, hm, hom, x1⟩
  replace X := hide (X.out.trans x1)
  replace H1 := hide (H1.out.ext x1)
  clear x1
  obtain ⟨d, xs, dw, hn⟩ := dj_of hc hl hm hom
  have DX := hide dw
  have HN := hide hn
  clear hc hl hm hom dw hn H0
  obtain ⟨J, hJ⟩ : ∃ J, Hid (judgedB d xs md = J) := ⟨_, rfl⟩
  obtain ⟨w2, hW⟩ : ∃ W, Hid (W = (w1.alloc (.cells #[.slice a1 am1 ad1, .slice a2 am2 ad2, .int .i64 ar, .int .i64 ab, .int .i64 ak, .int .i64 af] 26)).alloc (.cells #[.slice Mg Mng Mcg, .slice Mc Mnc Mcc] 30)) := ⟨_, rfl⟩
  have xa : Ext w1 w2 := by rw [hW.out]; exact (Ext.alloc _ _).trans (Ext.alloc _ _)
  obtain ⟨gP5, hg⟩ : ∃ g, Hid (g = w1.heap.size) := ⟨_, rfl⟩
  obtain ⟨gP7, hg1⟩ : ∃ g, Hid (g = w1.heap.size + 1) := ⟨_, rfl⟩
  have P5 : Hid (Blk w2 gP5 #[.slice a1 am1 ad1, .slice a2 am2 ad2, .int .i64 ar, .int .i64 ab, .int .i64 ak, .int .i64 af] 26) := by rw [hW.out, hg.out]; exact (Blk.new rfl _ _).alloc _
  have P7 : Hid (Blk w2 gP7 #[.slice Mg Mng Mcg, .slice Mc Mnc Mcc] 30) := by rw [hW.out, hg1.out]; exact Blk.new (by simp) _ _
  replace X := hide (X.out.trans xa)
  replace H1 := hide (H1.out.ext xa)
  replace DX := hide (DX.out.ext xa)
  clear xa
  go_wp2_with fail
  rw [← hW.out, ← hg1.out, ← hg.out]
  clear hW hg hg1
  refine (DX.out.iScores HN.out hJ.out).mono ?_
  rintro e w3 ⟨A8, n8, c8, rfl, e8, nu8, x1⟩
  replace X := hide (X.out.trans x1)
  replace H1 := hide (H1.out.ext x1)
  replace DX := hide (DX.out.ext x1)
  replace P5 := hide (P5.out.ext x1)
  replace P7 := hide (P7.out.ext x1)
  clear x1
  have S8 := hide nu8
  have E8 := hide e8
  clear nu8 e8
  have qP5 := P5.out.cell
  have lP5 := P5.out.lt
  have qP7 := P7.out.cell
  have lP7 := P7.out.lt
  go_wp2_with fail
  clear qP5 lP5
  clear qP7 lP7
  refine (DX.out.sScores HN.out hJ.out).mono ?_
  rintro e w4 ⟨A10, n10, c10, rfl, e10, nu10, x1⟩
  replace X := hide (X.out.trans x1)
  replace H1 := hide (H1.out.ext x1)
  replace DX := hide (DX.out.ext x1)
  replace P5 := hide (P5.out.ext x1)
  replace P7 := hide (P7.out.ext x1)
  replace S8 := hide (S8.out.ext x1)
  clear x1
  have S10 := hide nu10
  have E10 := hide e10
  clear nu10 e10
  obtain rfl : n8 = n10 := by rw [← E8.out, ← E10.out]
  clear E10
  have qP5 := P5.out.cell
  have lP5 := P5.out.lt
  have qP7 := P7.out.cell
  have lP7 := P7.out.lt
  go_wp2_with fail
  clear qP5 lP5
  clear qP7 lP7
  obtain ⟨SU, hSU⟩ : ∃ z, Hid ((itemSumF d xs md).1 = z) := ⟨_, rfl⟩
  have OI := hide (DX.out.iSum HN.out hJ.out)
  rw [hSU.out] at OI
  refine (OI.out).mono ?_
  rintro e w5 ⟨rfl, x1⟩
  replace X := hide (X.out.trans x1)
  replace H1 := hide (H1.out.ext x1)
  replace DX := hide (DX.out.ext x1)
  replace P5 := hide (P5.out.ext x1)
  replace P7 := hide (P7.out.ext x1)
  replace S8 := hide (S8.out.ext x1)
  replace S10 := hide (S10.out.ext x1)
  clear x1
  clear OI
  have qP5 := P5.out.cell
  have lP5 := P5.out.lt
  have qP7 := P7.out.cell
  have lP7 := P7.out.lt
  go_wp2_with fail
  clear qP5 lP5
  clear qP7 lP7
  have OI := hide (DX.out.sSum HN.out hJ.out)
  rw [hSU.out] at OI
  refine (OI.out).mono ?_
  rintro e w6 ⟨rfl, x1⟩
  replace X := hide (X.out.trans x1)
  replace H1 := hide (H1.out.ext x1)
  replace DX := hide (DX.out.ext x1)
  replace P5 := hide (P5.out.ext x1)
  replace P7 := hide (P7.out.ext x1)
  replace S8 := hide (S8.out.ext x1)
  replace S10 := hide (S10.out.ext x1)
  clear x1
  clear OI
  have qP5 := P5.out.cell
  have lP5 := P5.out.lt
  have qP7 := P7.out.cell
  have lP7 := P7.out.lt
  go_wp2_with fail
  clear qP5 lP5
  clear qP7 lP7
  obtain ⟨B1, hB1⟩ : ∃ z, Hid ((bestItemF d xs md).1 = z) := ⟨_, rfl⟩
  obtain ⟨B2, hB2⟩ : ∃ z, Hid ((bestItemF d xs md).2 = z) := ⟨_, rfl⟩
  have OI := hide (DX.out.iBest HN.out)
  rw [hB1.out, hB2.out] at OI
  refine (OI.out).mono ?_
  rintro e w7 ⟨rfl, x1⟩
  replace X := hide (X.out.trans x1)
  replace H1 := hide (H1.out.ext x1)
  replace DX := hide (DX.out.ext x1)
  replace P5 := hide (P5.out.ext x1)
  replace P7 := hide (P7.out.ext x1)
  replace S8 := hide (S8.out.ext x1)
  replace S10 := hide (S10.out.ext x1)
  clear x1
  clear OI
  have qP5 := P5.out.cell
  have lP5 := P5.out.lt
  have qP7 := P7.out.cell
  have lP7 := P7.out.lt
  go_wp2_with fail
  clear qP5 lP5
  clear qP7 lP7
  have OI := hide (DX.out.sBest HN.out)
  rw [hB1.out, hB2.out] at OI
  refine (OI.out).mono ?_
  rintro e w8 ⟨rfl, x1⟩
  replace X := hide (X.out.trans x1)
  replace H1 := hide (H1.out.ext x1)
  replace DX := hide (DX.out.ext x1)
  replace P5 := hide (P5.out.ext x1)
  replace P7 := hide (P7.out.ext x1)
  replace S8 := hide (S8.out.ext x1)
  replace S10 := hide (S10.out.ext x1)
  clear x1
  clear OI
  have qP5 := P5.out.cell
  have lP5 := P5.out.lt
  have qP7 := P7.out.cell
  have lP7 := P7.out.lt
  go_wp2_with fail
  clear qP5 lP5
  clear qP7 lP7
  obtain ⟨V, hV⟩ : ∃ z, Hid ((areJudgedF d xs md).2 = z) := ⟨_, rfl⟩
  have OI := hide (DX.out.iWas HN.out hJ.out)
  rw [hV.out] at OI
  refine (OI.out).mono ?_
  rintro e w9 ⟨rfl, x1⟩
  replace X := hide (X.out.trans x1)
  replace H1 := hide (H1.out.ext x1)
  replace DX := hide (DX.out.ext x1)
  replace P5 := hide (P5.out.ext x1)
  replace P7 := hide (P7.out.ext x1)
  replace S8 := hide (S8.out.ext x1)
  replace S10 := hide (S10.out.ext x1)
  clear x1
  clear OI
  have qP5 := P5.out.cell
  have lP5 := P5.out.lt
  have qP7 := P7.out.cell
  have lP7 := P7.out.lt
  go_wp2_with fail
  clear qP5 lP5
  clear qP7 lP7
  have OI := hide (DX.out.sWas HN.out hJ.out)
  rw [hV.out] at OI
  refine (OI.out).mono ?_
  rintro e w10 ⟨rfl, x1⟩
  replace X := hide (X.out.trans x1)
  replace H1 := hide (H1.out.ext x1)
  replace DX := hide (DX.out.ext x1)
  replace P5 := hide (P5.out.ext x1)
  replace P7 := hide (P7.out.ext x1)
  replace S8 := hide (S8.out.ext x1)
  replace S10 := hide (S10.out.ext x1)
  clear x1
  clear OI
  clear P5 P7
  go_wp2_with fail
  refine (s.DrawGradePoints_m _ _ _ _ H1.out).mono ?_
  rintro e w11 ⟨z1, zm1, zd1, z2, zm2, zd2, zr, zb, zk, zf, A2, n2, c2, Kg, Kng, Kcg, Kc, Knc, Kcc, m2, kz, rfl, n152, hkz, hc, hl, hm, hom, x1⟩
  replace X := hide (X.out.trans x1)
  replace H1 := hide (H1.out.ext x1)
  replace DX := hide (DX.out.ext x1)
  replace S8 := hide (S8.out.ext x1)
  replace S10 := hide (S10.out.ext x1)
  clear x1
  obtain ⟨d2, xs2, dw2, hn2⟩ := dj_of hc hl hm hom
  have DZ := hide dw2
  have HN2 := hide hn2
  have HK := hide hkz
  clear hc hl hm hom dw2 hn2 hkz
  clear H1
  obtain ⟨w12, hW⟩ : ∃ W, Hid (W = (w11.alloc (.cells #[.slice z1 zm1 zd1, .slice z2 zm2 zd2, .int .i64 zr, .int .i64 zb, .int .i64 zk, .int .i64 zf] 26)).alloc (.cells #[.slice Kg Kng Kcg, .slice Kc Knc Kcc] 30)) := ⟨_, rfl⟩
  have xa : Ext w11 w12 := by rw [hW.out]; exact (Ext.alloc _ _).trans (Ext.alloc _ _)
  obtain ⟨gP24, hg⟩ : ∃ g, Hid (g = w11.heap.size) := ⟨_, rfl⟩
  obtain ⟨gP26, hg1⟩ : ∃ g, Hid (g = w11.heap.size + 1) := ⟨_, rfl⟩
  have P24 : Hid (Blk w12 gP24 #[.slice z1 zm1 zd1, .slice z2 zm2 zd2, .int .i64 zr, .int .i64 zb, .int .i64 zk, .int .i64 zf] 26) := by rw [hW.out, hg.out]; exact (Blk.new rfl _ _).alloc _
  have P26 : Hid (Blk w12 gP26 #[.slice Kg Kng Kcg, .slice Kc Knc Kcc] 30) := by rw [hW.out, hg1.out]; exact Blk.new (by simp) _ _
  replace X := hide (X.out.trans xa)
  replace DX := hide (DX.out.ext xa)
  replace S8 := hide (S8.out.ext xa)
  replace S10 := hide (S10.out.ext xa)
  replace DZ := hide (DZ.out.ext xa)
  clear xa
  go_wp2_with fail
  rw [← hW.out, ← hg1.out, ← hg.out]
  clear hW hg hg1
  obtain ⟨g1, hg1⟩ : ∃ z, Hid ((gradePointsF d2 xs2 m2 kz).1 = z) := ⟨_, rfl⟩
  obtain ⟨g2, hg2⟩ : ∃ z, Hid ((gradePointsF d2 xs2 m2 kz).2 = z) := ⟨_, rfl⟩
  have OI := hide (DZ.out.iPts HN2.out kz HK.out)
  rw [hg1.out, hg2.out] at OI
  refine (OI.out).mono ?_
  rintro e w13 ⟨rfl, x1⟩
  replace X := hide (X.out.trans x1)
  replace DX := hide (DX.out.ext x1)
  replace S8 := hide (S8.out.ext x1)
  replace S10 := hide (S10.out.ext x1)
  replace DZ := hide (DZ.out.ext x1)
  replace P24 := hide (P24.out.ext x1)
  replace P26 := hide (P26.out.ext x1)
  clear x1
  clear OI
  have qP24 := P24.out.cell
  have lP24 := P24.out.lt
  have qP26 := P26.out.cell
  have lP26 := P26.out.lt
  go_wp2_with fail
  clear qP24 lP24
  clear qP26 lP26
  have OI := hide (DZ.out.sPts HN2.out kz HK.out)
  rw [hg1.out, hg2.out] at OI
  refine (OI.out).mono ?_
  rintro e w14 ⟨rfl, x1⟩
  replace X := hide (X.out.trans x1)
  replace DX := hide (DX.out.ext x1)
  replace S8 := hide (S8.out.ext x1)
  replace S10 := hide (S10.out.ext x1)
  replace DZ := hide (DZ.out.ext x1)
  replace P24 := hide (P24.out.ext x1)
  replace P26 := hide (P26.out.ext x1)
  clear x1
  clear OI
  have BO : Hid (B2 = (J && !((xs.length : Int) == 0))) := by show _ = _; rw [← hB2.out, ← hJ.out]; exact best_ok d xs md
  have JV : Hid (J = true → V = true) := fun h => by rw [← hV.out]; exact judged_five (by rw [hJ.out]; exact h)
  have EL := hide (fun (h : J = true) => (scS_yes (d := d) (xs := xs) (m := md) (by rw [hJ.out]; exact h)).2)
  go_upto_region 15 with fail
  go_cut [204] (fun s204 wx => s204 = .bool false ∧ Ext w14 wx)
  case first =>
    skip
    have e1 : (J != J) = false := by simp
    have e2 : (SU != SU) = false := by simp
    have e3 : (B2 != B2) = false := by simp
    have e4 : (B1 != B1) = false := by simp
    have e5 : (V != V) = false := by simp
    have e6 : (g2 != g2) = false := by simp
    have e7 : (g1 != g1) = false := by simp
    have n8b : n8 ≤ 1048576 := by have := scS_len d xs md; have := E8.out; have := HN.out; omega
    have c10b := S10.out.cap; have c10m := S10.out.capm
    have QS := hide (S8.out.same S10.out n8b)
    clear n8b
    have e8 : ((n8 : Int) == 0) = ((xs.length : Int) == 0) ∨ J = false := by
      cases hj : J with
      | false => exact .inr rfl
      | true => have h1 := EL.out hj; have h2 := E8.out; rw [h2] at h1; rw [h1]; exact .inl rfl
    have B3 := BO.out
    have J3 := JV.out
    clear BO JV EL
    cases J
    · obtain rfl : B2 = false := B3
      clear J3 e8
      cases V
      · as_aux_lemma =>
          go_wp2_with fail
          refine QS.out.mono ?_
          rintro e wy ⟨rfl, xy⟩
          go_wp2
          go_meet
          exact ⟨rfl, xy⟩
      · as_aux_lemma =>
          go_wp2_with fail
          refine QS.out.mono ?_
          rintro e wy ⟨rfl, xy⟩
          go_wp2
          go_meet
          exact ⟨rfl, xy⟩
    · obtain rfl : V = true := J3 rfl
      by_cases h0 : n8 = 0
      · subst h0
        obtain rfl : B2 = false := by rw [B3]; rcases e8 with h | h; rw [← h]; rfl; cases h
        clear B3 J3 e8
        as_aux_lemma =>
          go_wp2_with fail
          refine QS.out.mono ?_
          rintro e wy ⟨rfl, xy⟩
          go_wp2
          go_meet
          exact ⟨rfl, xy⟩
      · obtain rfl : B2 = true := by rw [B3]; rcases e8 with h | h; rw [← h]; simp; omega; cases h
        have hp : (0 : Int) < (n8 : Int) := by omega
        have hp2 : 0 < n8 := by omega
        have hp3 : decide (0 < n8) = true := decide_eq_true hp2
        clear B3 J3 e8
        as_aux_lemma =>
          go_wp2_with fail
          refine QS.out.mono ?_
          rintro e wy ⟨rfl, xy⟩
          go_wp2
          go_meet
          exact ⟨rfl, xy⟩
  case rest =>
    obtain ⟨rfl, xc⟩ := hcut
    replace X := hide (X.out.trans xc)
    replace DX := hide (DX.out.ext xc)
    replace S8 := hide (S8.out.ext xc)
    replace S10 := hide (S10.out.ext xc)
    replace DZ := hide (DZ.out.ext xc)
    replace P24 := hide (P24.out.ext xc)
    replace P26 := hide (P26.out.ext xc)
    clear xc
    clear S8
    go_upto_if 205 with fail
    go_cut [] (fun wx => Ext wc wx)
    case first =>
      as_aux_lemma =>
      cases g2
      · go_wp2
        go_meet
        exact Ext.refl _
      · obtain ⟨k, hk, hkl, hgd, hsc, hul, u0, u1, b0, b1, p0, p1, p2, p3, p4⟩ := seven_law hg2.out
        subst hk
        rw [hg1.out] at hsc p0 p1 p2 p3 p4
        obtain ⟨U, hU⟩ : ∃ z, Hid (unitF d2 (xs2.getD k noItem) = z) := ⟨_, rfl⟩
        obtain ⟨B, hB⟩ : ∃ z, Hid (baseF d2 xs2 k = z) := ⟨_, rfl⟩
        rw [hU.out] at hul u0 u1 p2 p3
        rw [hB.out] at hsc b0 b1 p4
        have SCO := hide hsc
        have UL := hide hul
        have GD := hide hgd
        have P4 := hide p4
        have kn : k < n2 := by have := HN2.out; omega
        obtain ⟨x, hxk⟩ : ∃ x, Hid (xs2[k]? = some x) := get_ex xs2 k hkl
        have ex : xs2.getD k noItem = x := getD_some hxk.out
        rw [ex] at UL
        clear hsc hul hgd p4 hU hkl ex
        have XC := hide (Ext.refl wc)
        have IB := hide (DZ.out.iBase HN2.out GD.out kn)
        rw [hB.out] at IB
        have qP24 := P24.out.cell
        have lP24 := P24.out.lt
        have qP26 := P26.out.cell
        have lP26 := P26.out.lt
        go_wp2_with fail
        clear qP24 lP24
        clear qP26 lP26
        refine (IB.out).mono ?_
        rintro e w15 ⟨rfl, x1⟩
        replace XC := hide (XC.out.trans x1)
        replace DZ := hide (DZ.out.ext x1)
        replace P24 := hide (P24.out.ext x1)
        replace P26 := hide (P26.out.ext x1)
        clear x1
        clear IB
        have OI := hide (DZ.out.iScore HN2.out (k : Int) HK.out)
        rw [SCO.out] at OI
        have qP24 := P24.out.cell
        have lP24 := P24.out.lt
        have qP26 := P26.out.cell
        have lP26 := P26.out.lt
        go_wp2_with fail
        clear qP24 lP24
        clear qP26 lP26
        refine (OI.out).mono ?_
        rintro e w16 ⟨rfl, x1⟩
        replace XC := hide (XC.out.trans x1)
        replace DZ := hide (DZ.out.ext x1)
        replace P24 := hide (P24.out.ext x1)
        replace P26 := hide (P26.out.ext x1)
        clear x1
        clear OI SCO
        obtain ⟨bl, ol, C1, e1, C2, e2, hA, hbl, i0, i1, i2, L1, L2⟩ := DZ.out.lr.item k x hxk.out
        subst hA
        have FB := hide (fun (wq : World) (xq : Ext w16 wq) => i.UnitOf_law wq _ _ d2 x (kC.rd_ext DZ.out.rd xq) DZ.out.ok (kIm.rd_ext (show kIm.rd w16 (.agg #[.slice C1 x.1.length e1, .slice C2 x.2.1.length e2, .bool x.2.2]) x from ⟨_, rfl, kdItem.mk_ L1 L2⟩) xq) (Nat.le_trans (wtL_at kdItem xs2 k x hxk.out) DZ.out.wt))
        rw [UL.out] at FB
        clear L1 L2
        have cc1 := hide DZ.out.lr.1
        have cc2 := hide DZ.out.lr.2.1
        have kz2 : (k : Int) < (n2 : Int) := by omega
        have q5 := P24.out.cell
        have l5 := P24.out.lt
        obtain ⟨v1, hv1⟩ : ∃ z, Hid (x.1.length = z) := ⟨_, rfl⟩
        obtain ⟨v2, hv2⟩ : ∃ z, Hid (x.2.1.length = z) := ⟨_, rfl⟩
        obtain ⟨v3, hv3⟩ : ∃ z, Hid (x.2.2 = z) := ⟨_, rfl⟩
        rw [hv1.out] at i0 FB
        rw [hv2.out] at i1 FB
        rw [hv3.out] at i2 FB
        go_wp2_with fail
        go_region_law (go_simp; go_at_call 20; refine (FB.out _ (Ext.drew _)).mono ?_; rintro e w17 ⟨rfl, x1⟩; have XC := hide (XC.out.trans ((Ext.drew _).trans x1)); have DZ := hide (DZ.out.ext ((Ext.drew _).trans x1)); have P24 := hide (P24.out.ext ((Ext.drew _).trans x1)); have P26 := hide (P26.out.ext ((Ext.drew _).trans x1)); clear x1)
        all_goals
          clear q5 l5 i0 i1 i2 FB hbl cc1 cc2 hv1 hv2 hv3
          obtain ⟨bl, ol, C1, e1, C2, e2, hA, hbl, i0, i1, i2, L1, L2⟩ := DZ.out.lr.item k x hxk.out
          simp only [Option.some.injEq, Addr.mk.injEq, and_true] at hA
          obtain ⟨rfl, rfl⟩ := hA
          have FB := hide (fun (wq : World) (xq : Ext w17 wq) => s.UnitOf_law wq _ _ d2 x (kC.rd_ext DZ.out.rd xq) DZ.out.ok (kIm.rd_ext (show kIm.rd w17 (.agg #[.slice C1 x.1.length e1, .slice C2 x.2.1.length e2, .bool x.2.2]) x from ⟨_, rfl, kdItem.mk_ L1 L2⟩) xq) (Nat.le_trans (wtL_at kdItem xs2 k x hxk.out) DZ.out.wt))
          rw [UL.out] at FB
          clear L1 L2
          have cc1 := hide DZ.out.lr.1
          have cc2 := hide DZ.out.lr.2.1
          have kz2 : (k : Int) < (n2 : Int) := by omega
          have q5 := P24.out.cell
          have l5 := P24.out.lt
          obtain ⟨v1, hv1⟩ : ∃ z, Hid (x.1.length = z) := ⟨_, rfl⟩
          obtain ⟨v2, hv2⟩ : ∃ z, Hid (x.2.1.length = z) := ⟨_, rfl⟩
          obtain ⟨v3, hv3⟩ : ∃ z, Hid (x.2.2 = z) := ⟨_, rfl⟩
          rw [hv1.out] at i0 FB
          rw [hv2.out] at i1 FB
          rw [hv3.out] at i2 FB
          go_wp2_with fail
          go_region_law (go_simp; go_at_call 21; refine (FB.out _ (Ext.drew _)).mono ?_; rintro e w18 ⟨rfl, x1⟩; have XC := hide (XC.out.trans ((Ext.drew _).trans x1)); have DZ := hide (DZ.out.ext ((Ext.drew _).trans x1)); have P24 := hide (P24.out.ext ((Ext.drew _).trans x1)); have P26 := hide (P26.out.ext ((Ext.drew _).trans x1)); clear x1)
          all_goals
            clear q5 l5 i0 i1 i2 FB hbl cc1 cc2 hv1 hv2 hv3
            have f1 : (U != U) = false := by simp
            have f2 : (B + g1 != B + g1) = false := by simp
            have AB := hide (fun (wq : World) => l.qAbs_m g1 wq ⟨by omega, by omega⟩)
            go_wp2_with fail
            refine (AB.out _).mono ?_
            rintro e wa ⟨a, rfl, ha, a0_, a1_, rfl⟩
            have hle : ¬ U + 1 < 2 * a := by omega
            clear ha AB
            by_cases hb0 : B = 0
            · have hp0 := P4.out hb0
              subst hb0 hp0
              clear P4
              as_aux_lemma =>
                go_wp2
                go_meet
                exact XC.out
            · have hbz : (B == 0) = false := by simp [hb0]
              clear P4
              as_aux_lemma =>
                go_wp2
                go_meet
                exact XC.out
    case rest =>
      have xc := hcut
      replace X := hide (X.out.trans xc)
      replace DX := hide (DX.out.ext xc)
      replace S10 := hide (S10.out.ext xc)
      replace DZ := hide (DZ.out.ext xc)
      replace P24 := hide (P24.out.ext xc)
      replace P26 := hide (P26.out.ext xc)
      clear xc hcut
      clear DZ P24 P26
      clear hg1 hg2 HK HN2
      cases J
      · go_wp2
        go_ret
        exact ⟨rfl, X.out⟩
      have HE := hide (EL.out rfl)
      have en : n8 = n := by have := HE.out; have := E8.out; have := HN.out; omega
      subst en
      obtain ⟨q1, q2⟩ := sum_law hJ.out
      rw [hSU.out] at q1
      have HS := hide q1.symm
      have HM := hide q2
      clear q1 q2
      have n14 : n8 ≤ 1048576 := by omega
      have cpn := DX.out.lr.1
      have cpm := DX.out.lr.2.1
      rw [HN.out] at cpn
      have c10b := S10.out.cap; have c10m := S10.out.capm
      have Q1 := hide (fun (wq : World) (h : NumJ wq A10 n8 c10 (scS d xs md)) => l.qSum_m A10 n8 c10 _ _ wq h.sl n14 HM.out)
      rw [HS.out] at Q1
      have zs : (SU != SU) = false := by simp
      have zn : ((n8 : Int) != (n8 : Int)) = false := by simp
      go_wp2_with fail
      refine (Q1.out _ S10.out).mono ?_
      rintro e wq ⟨rfl, rfl⟩
      clear Q1 zs
      go_wp2
      go_loopw [296] (fun s wr => ∃ i : Nat, s = .int .i64 i ∧ i ≤ n8 ∧ Ext wq wr) (fun s _ => n8 - (intOf s).toNat)
      case atStart => exact ⟨0, by go_num, Nat.zero_le _, Ext.refl _⟩
      case round =>
        obtain ⟨i, rfl, hi, x1⟩ := hrel
        have YX := hide x1
        have T10 := hide (S10.out.ext x1)
        clear x1
        by_cases hlt : i < n8
        · as_aux_lemma =>
          have h0 : 0 < xs.length := by have := HN.out; omega
          obtain ⟨q, hq, hql, htop⟩ := best_law hJ.out h0
          have hb : B1 = (q : Int) := by rw [← hB1.out, hq]
          subst hb
          have ht := htop i (by have := HN.out; omega)
          obtain ⟨b9, o9, e9, hb9, hc9⟩ := T10.out.sl.cells (by omega)
          subst e9
          have wi := hc9 i hlt
          have wb := hc9 q (by have := HN.out; omega)
          obtain ⟨y1, hy1⟩ : ∃ z, Hid ((scS d xs md).getD i 0 = z) := ⟨_, rfl⟩
          obtain ⟨y2, hy2⟩ : ∃ z, Hid ((scS d xs md).getD q 0 = z) := ⟨_, rfl⟩
          rw [hy1.out] at wi ht
          rw [hy2.out] at wb ht
          obtain ⟨t1, t2⟩ := ht
          have iz : (i : Int) < (n8 : Int) := by omega
          have qz : (q : Int) < (n8 : Int) := by have := HN.out; omega
          have q0 : (0 : Int) ≤ (q : Int) := by omega
          clear hc9 htop hq
          by_cases he : y1 = y2
          · have t3 := t2 he
            have t4 : ¬ (i : Int) < (q : Int) := by omega
            subst he
            have t5 : (y1 == y1) = true := by simp
            clear t2 t3
            go_wp2
            go_roundw
            case rel => exact ⟨i + 1, by go_num, by omega, YX.out⟩
            case measure => simp [intOf]; omega
          · have t5 : (y1 == y2) = false := by simp [he]
            clear t2
            go_wp2
            go_roundw
            case rel => exact ⟨i + 1, by go_num, by omega, YX.out⟩
            case measure => simp [intOf]; omega
        · go_wp2
          go_ret
          exact ⟨rfl, X.out.trans YX.out⟩
end Go.Proofs.YtaoeomgehpdedaaGreat
