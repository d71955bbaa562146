/- The walk of FnGrades: drawn marks; columns of judges enclose the scores; least grades. (Printed by gr.py.) -/
import Derived.Test.YtaoeomgehpdedaaGreatHH
import Derived.Deep.DeepCutAuto
namespace Go.Proofs.YtaoeomgehpdedaaGreat
open Go.RowKit Go.Sort
set_option linter.unusedVariables false

set_option maxRecDepth 100000 in
set_option maxHeartbeats 20000000 in
theorem FnGrades_walk (a0 : Option Addr) (n0 c0 : Nat) (a1 : Option Addr) (n1 c1 : Nat) (w : World) (h0 : ArgB w a0 n0 c0) (h1 : ArgB w a1 n1 c1) :
    Calls Tryz.prog 4 #[.slice a0 n0 c0, .slice a1 n1 c1] w fun e w' => e = .returned (.bool true) ∧ Ext w w' := by
  have p0 := h0.cap; have p0' := h0.capm; have p1 := h1.cap; have p1' := h1.capm
  have H0 := hide h0
  have H1 := hide h1
  clear h0 h1
  obtain ⟨sm, hsm⟩ : ∃ sm, Hid (IntKind.i64.wrap ((n0 : Int) + n1) = sm) := ⟨_, rfl⟩
  have X := hide (Ext.refl w)
  go_enter Tryz.func4, Tryz.ntmps4
  go_wp2_with fail
  · go_ret
    exact ⟨rfl, X.out⟩
  clear hsm p0 p0' p1 p1'
  refine (s.DrawColumnOf_m w _ _ _ H0.out).mono ?_
  rintro e w1 ⟨a1, am1, ad1, a2, am2, ad2, ar, ab, ak, af, A, n, c, Mg, Mng, Mcg, Mc, Mnc, Mcc, md, jz, rfl, n15, hjz, hc, hl, hm, hom, x1⟩
  replace X := hide (X.out.trans x1)
  replace H1 := hide (H1.out.ext x1)
  clear x1
  obtain ⟨d, xs, dw, hn⟩ := dj_of hc hl hm hom
  have DX := hide dw
  have HN := hide hn
  have HQ := hide hjz
  clear hc hl hm hom dw hn H0 hjz
  obtain ⟨J, hJ⟩ : ∃ J, Hid ((columnF d xs md jz).2 = J) := ⟨_, rfl⟩
  obtain ⟨C, hC⟩ : ∃ C, Hid ((columnF d xs md jz).1 = C) := ⟨_, rfl⟩
  obtain ⟨w2, hW⟩ : ∃ W, Hid (W = (w1.alloc (.cells #[.slice a1 am1 ad1, .slice a2 am2 ad2, .int .i64 ar, .int .i64 ab, .int .i64 ak, .int .i64 af] 26)).alloc (.cells #[.slice Mg Mng Mcg, .slice Mc Mnc Mcc] 30)) := ⟨_, rfl⟩
  have xa : Ext w1 w2 := by rw [hW.out]; exact (Ext.alloc _ _).trans (Ext.alloc _ _)
  obtain ⟨gP5, hg⟩ : ∃ g, Hid (g = w1.heap.size) := ⟨_, rfl⟩
  obtain ⟨gP7, hg1⟩ : ∃ g, Hid (g = w1.heap.size + 1) := ⟨_, rfl⟩
  have P5 : Hid (Blk w2 gP5 #[.slice a1 am1 ad1, .slice a2 am2 ad2, .int .i64 ar, .int .i64 ab, .int .i64 ak, .int .i64 af] 26) := by rw [hW.out, hg.out]; exact (Blk.new rfl _ _).alloc _
  have P7 : Hid (Blk w2 gP7 #[.slice Mg Mng Mcg, .slice Mc Mnc Mcc] 30) := by rw [hW.out, hg1.out]; exact Blk.new (by simp) _ _
  replace X := hide (X.out.trans xa)
  replace H1 := hide (H1.out.ext xa)
  replace DX := hide (DX.out.ext xa)
  clear xa
  go_wp2_with fail
  rw [← hW.out, ← hg1.out, ← hg.out]
  clear hW hg hg1
  refine (DX.out.iCol HN.out HQ.out hC.out hJ.out).mono ?_
  rintro e w3 ⟨A9, n9, c9, rfl, e9, nu9, x1⟩
  replace X := hide (X.out.trans x1)
  replace H1 := hide (H1.out.ext x1)
  replace DX := hide (DX.out.ext x1)
  replace P5 := hide (P5.out.ext x1)
  replace P7 := hide (P7.out.ext x1)
  clear x1
  have S9 := hide (NumJ.of_own nu9)
  have E9 := hide e9
  clear nu9 e9
  have qP5 := P5.out.cell
  have lP5 := P5.out.lt
  have qP7 := P7.out.cell
  have lP7 := P7.out.lt
  go_wp2_with fail
  clear qP5 lP5
  clear qP7 lP7
  refine (DX.out.sCol HN.out HQ.out hC.out hJ.out).mono ?_
  rintro e w4 ⟨A11, n11, c11, rfl, e11, nu11, x1⟩
  replace X := hide (X.out.trans x1)
  replace H1 := hide (H1.out.ext x1)
  replace DX := hide (DX.out.ext x1)
  replace P5 := hide (P5.out.ext x1)
  replace P7 := hide (P7.out.ext x1)
  replace S9 := hide (S9.out.ext x1)
  clear x1
  have S11 := hide (NumJ.of_own nu11)
  have E11 := hide e11
  clear nu11 e11
  obtain rfl : n9 = n11 := by rw [← E9.out, ← E11.out]
  clear E11
  go_wp2_with fail
  refine (s.DrawLeastGrade_m _ _ _ _ H1.out).mono ?_
  rintro e w5 ⟨z1, zm1, zd1, z2, zm2, zd2, zr, zb, zk, zf, A2, n2, c2, kz, pz, rfl, n152, hkz, hpz, hc, hl, x1⟩
  replace X := hide (X.out.trans x1)
  replace H1 := hide (H1.out.ext x1)
  replace DX := hide (DX.out.ext x1)
  replace P5 := hide (P5.out.ext x1)
  replace P7 := hide (P7.out.ext x1)
  replace S9 := hide (S9.out.ext x1)
  replace S11 := hide (S11.out.ext x1)
  clear x1
  obtain ⟨d2, xs2, dw2, hn2⟩ := dl_of hc hl
  have DZ := hide dw2
  have HN2 := hide hn2
  have HK := hide hkz
  have HP := hide hpz
  clear hc hl dw2 hn2 hkz hpz
  obtain ⟨w6, hW⟩ : ∃ W, Hid (W = w5.alloc (.cells #[.slice z1 zm1 zd1, .slice z2 zm2 zd2, .int .i64 zr, .int .i64 zb, .int .i64 zk, .int .i64 zf] 26)) := ⟨_, rfl⟩
  have xa : Ext w5 w6 := by rw [hW.out]; exact Ext.alloc _ _
  obtain ⟨gP13, hg⟩ : ∃ g, Hid (g = w5.heap.size) := ⟨_, rfl⟩
  have P13 : Hid (Blk w6 gP13 #[.slice z1 zm1 zd1, .slice z2 zm2 zd2, .int .i64 zr, .int .i64 zb, .int .i64 zk, .int .i64 zf] 26) := by rw [hW.out, hg.out]; exact Blk.new rfl _ _
  replace X := hide (X.out.trans xa)
  replace H1 := hide (H1.out.ext xa)
  replace DX := hide (DX.out.ext xa)
  replace P5 := hide (P5.out.ext xa)
  replace P7 := hide (P7.out.ext xa)
  replace S9 := hide (S9.out.ext xa)
  replace S11 := hide (S11.out.ext xa)
  replace DZ := hide (DZ.out.ext xa)
  clear xa
  go_wp2_with fail
  rw [← hW.out, ← hg.out]
  clear hW hg
  obtain ⟨g1, hg1⟩ : ∃ z, Hid ((leastF d2 xs2 kz pz).1 = z) := ⟨_, rfl⟩
  obtain ⟨g2, hg2⟩ : ∃ z, Hid ((leastF d2 xs2 kz pz).2 = z) := ⟨_, rfl⟩
  have OI := hide (DZ.out.iLeast HN2.out HK.out HP.out)
  rw [hg1.out, hg2.out] at OI
  refine (OI.out).mono ?_
  rintro e w7 ⟨rfl, x1⟩
  replace X := hide (X.out.trans x1)
  replace H1 := hide (H1.out.ext x1)
  replace DX := hide (DX.out.ext x1)
  replace P5 := hide (P5.out.ext x1)
  replace P7 := hide (P7.out.ext x1)
  replace S9 := hide (S9.out.ext x1)
  replace S11 := hide (S11.out.ext x1)
  replace DZ := hide (DZ.out.ext x1)
  replace P13 := hide (P13.out.ext x1)
  clear x1
  clear OI
  have qP13 := P13.out.cell
  have lP13 := P13.out.lt
  go_wp2_with fail
  clear qP13 lP13
  have OI := hide (DZ.out.sLeast HN2.out HK.out HP.out)
  rw [hg1.out, hg2.out] at OI
  refine (OI.out).mono ?_
  rintro e w8 ⟨rfl, x1⟩
  replace X := hide (X.out.trans x1)
  replace H1 := hide (H1.out.ext x1)
  replace DX := hide (DX.out.ext x1)
  replace P5 := hide (P5.out.ext x1)
  replace P7 := hide (P7.out.ext x1)
  replace S9 := hide (S9.out.ext x1)
  replace S11 := hide (S11.out.ext x1)
  replace DZ := hide (DZ.out.ext x1)
  replace P13 := hide (P13.out.ext x1)
  clear x1
  clear OI
  go_wp2_with fail
  refine (s.DrawUnitOf_m _ _ _ _ H1.out).mono ?_
  rintro e w9 ⟨y1, ym1, yd1, y2, ym2, yd2, yr, yb, yk, yf, B1, k1, e1, B2, k2, e2, ql, rfl, hc, hi, x1⟩
  replace X := hide (X.out.trans x1)
  replace H1 := hide (H1.out.ext x1)
  replace DX := hide (DX.out.ext x1)
  replace P5 := hide (P5.out.ext x1)
  replace P7 := hide (P7.out.ext x1)
  replace S9 := hide (S9.out.ext x1)
  replace S11 := hide (S11.out.ext x1)
  replace DZ := hide (DZ.out.ext x1)
  replace P13 := hide (P13.out.ext x1)
  clear x1
  obtain ⟨d3, it, du⟩ := du_of hc hi
  have DU := hide du
  clear hc hi du
  obtain ⟨w10, hW⟩ : ∃ W, Hid (W = (w9.alloc (.cells #[.slice y1 ym1 yd1, .slice y2 ym2 yd2, .int .i64 yr, .int .i64 yb, .int .i64 yk, .int .i64 yf] 26)).alloc (.cells #[.slice B1 k1 e1, .slice B2 k2 e2, .bool ql] 47)) := ⟨_, rfl⟩
  have xa : Ext w9 w10 := by rw [hW.out]; exact (Ext.alloc _ _).trans (Ext.alloc _ _)
  obtain ⟨gP21, hg⟩ : ∃ g, Hid (g = w9.heap.size) := ⟨_, rfl⟩
  obtain ⟨gP22, hg1⟩ : ∃ g, Hid (g = w9.heap.size + 1) := ⟨_, rfl⟩
  have P21 : Hid (Blk w10 gP21 #[.slice y1 ym1 yd1, .slice y2 ym2 yd2, .int .i64 yr, .int .i64 yb, .int .i64 yk, .int .i64 yf] 26) := by rw [hW.out, hg.out]; exact (Blk.new rfl _ _).alloc _
  have P22 : Hid (Blk w10 gP22 #[.slice B1 k1 e1, .slice B2 k2 e2, .bool ql] 47) := by rw [hW.out, hg1.out]; exact Blk.new (by simp) _ _
  replace X := hide (X.out.trans xa)
  replace H1 := hide (H1.out.ext xa)
  replace DX := hide (DX.out.ext xa)
  replace P5 := hide (P5.out.ext xa)
  replace P7 := hide (P7.out.ext xa)
  replace S9 := hide (S9.out.ext xa)
  replace S11 := hide (S11.out.ext xa)
  replace DZ := hide (DZ.out.ext xa)
  replace P13 := hide (P13.out.ext xa)
  replace DU := hide (DU.out.ext xa)
  clear xa
  go_wp2_with fail
  rw [← hW.out, ← hg1.out, ← hg.out]
  clear hW hg hg1
  obtain ⟨u1, hu1⟩ : ∃ z, Hid ((unitLaw d3 it).1 = z) := ⟨_, rfl⟩
  obtain ⟨u2, hu2⟩ : ∃ z, Hid ((unitLaw d3 it).2 = z) := ⟨_, rfl⟩
  have OI := hide (DU.out.iUnit)
  rw [hu1.out, hu2.out] at OI
  refine (OI.out).mono ?_
  rintro e w11 ⟨rfl, x1⟩
  replace X := hide (X.out.trans x1)
  replace H1 := hide (H1.out.ext x1)
  replace DX := hide (DX.out.ext x1)
  replace P5 := hide (P5.out.ext x1)
  replace P7 := hide (P7.out.ext x1)
  replace S9 := hide (S9.out.ext x1)
  replace S11 := hide (S11.out.ext x1)
  replace DZ := hide (DZ.out.ext x1)
  replace P13 := hide (P13.out.ext x1)
  replace DU := hide (DU.out.ext x1)
  replace P21 := hide (P21.out.ext x1)
  replace P22 := hide (P22.out.ext x1)
  clear x1
  clear OI
  have qP21 := P21.out.cell
  have lP21 := P21.out.lt
  have qP22 := P22.out.cell
  have lP22 := P22.out.lt
  go_wp2_with fail
  clear qP21 lP21
  clear qP22 lP22
  have OI := hide (DU.out.sUnit)
  rw [hu1.out, hu2.out] at OI
  refine (OI.out).mono ?_
  rintro e w12 ⟨rfl, x1⟩
  replace X := hide (X.out.trans x1)
  replace H1 := hide (H1.out.ext x1)
  replace DX := hide (DX.out.ext x1)
  replace P5 := hide (P5.out.ext x1)
  replace P7 := hide (P7.out.ext x1)
  replace S9 := hide (S9.out.ext x1)
  replace S11 := hide (S11.out.ext x1)
  replace DZ := hide (DZ.out.ext x1)
  replace P13 := hide (P13.out.ext x1)
  replace DU := hide (DU.out.ext x1)
  replace P21 := hide (P21.out.ext x1)
  replace P22 := hide (P22.out.ext x1)
  clear x1
  clear OI
  clear P21 P22 DU
  go_wp2_with fail
  refine (s.DrawItemScore_m _ _ _ _ H1.out).mono ?_
  rintro e w13 ⟨v1, vm1, vd1, v2, vm2, vd2, vr, vb, vk, vf, A4, n4, c4, Kg, Kng, Kcg, Kc, Knc, Kcc, m4, k4, rfl, n154, hk4, hc, hl, hm, hom, x1⟩
  replace X := hide (X.out.trans x1)
  replace H1 := hide (H1.out.ext x1)
  replace DX := hide (DX.out.ext x1)
  replace P5 := hide (P5.out.ext x1)
  replace P7 := hide (P7.out.ext x1)
  replace S9 := hide (S9.out.ext x1)
  replace S11 := hide (S11.out.ext x1)
  replace DZ := hide (DZ.out.ext x1)
  replace P13 := hide (P13.out.ext x1)
  clear x1
  obtain ⟨d4, xs4, dw4, hn4⟩ := dj_of hc hl hm hom
  have DV := hide dw4
  have HN4 := hide hn4
  have HK4 := hide hk4
  clear hc hl hm hom dw4 hn4 hk4
  clear H1
  obtain ⟨w14, hW⟩ : ∃ W, Hid (W = (w13.alloc (.cells #[.slice v1 vm1 vd1, .slice v2 vm2 vd2, .int .i64 vr, .int .i64 vb, .int .i64 vk, .int .i64 vf] 26)).alloc (.cells #[.slice Kg Kng Kcg, .slice Kc Knc Kcc] 30)) := ⟨_, rfl⟩
  have xa : Ext w13 w14 := by rw [hW.out]; exact (Ext.alloc _ _).trans (Ext.alloc _ _)
  obtain ⟨gP27, hg⟩ : ∃ g, Hid (g = w13.heap.size) := ⟨_, rfl⟩
  obtain ⟨gP29, hg1⟩ : ∃ g, Hid (g = w13.heap.size + 1) := ⟨_, rfl⟩
  have P27 : Hid (Blk w14 gP27 #[.slice v1 vm1 vd1, .slice v2 vm2 vd2, .int .i64 vr, .int .i64 vb, .int .i64 vk, .int .i64 vf] 26) := by rw [hW.out, hg.out]; exact (Blk.new rfl _ _).alloc _
  have P29 : Hid (Blk w14 gP29 #[.slice Kg Kng Kcg, .slice Kc Knc Kcc] 30) := by rw [hW.out, hg1.out]; exact Blk.new (by simp) _ _
  replace X := hide (X.out.trans xa)
  replace DX := hide (DX.out.ext xa)
  replace P5 := hide (P5.out.ext xa)
  replace P7 := hide (P7.out.ext xa)
  replace S9 := hide (S9.out.ext xa)
  replace S11 := hide (S11.out.ext xa)
  replace DZ := hide (DZ.out.ext xa)
  replace P13 := hide (P13.out.ext xa)
  replace DV := hide (DV.out.ext xa)
  clear xa
  go_wp2_with fail
  rw [← hW.out, ← hg1.out, ← hg.out]
  clear hW hg hg1
  obtain ⟨s1, hs1⟩ : ∃ z, Hid ((itemScoreF d4 xs4 m4 k4).1 = z) := ⟨_, rfl⟩
  obtain ⟨s2, hs2⟩ : ∃ z, Hid ((itemScoreF d4 xs4 m4 k4).2 = z) := ⟨_, rfl⟩
  have OI := hide (DV.out.iScore HN4.out k4 HK4.out)
  rw [hs1.out, hs2.out] at OI
  refine (OI.out).mono ?_
  rintro e w15 ⟨rfl, x1⟩
  replace X := hide (X.out.trans x1)
  replace DX := hide (DX.out.ext x1)
  replace P5 := hide (P5.out.ext x1)
  replace P7 := hide (P7.out.ext x1)
  replace S9 := hide (S9.out.ext x1)
  replace S11 := hide (S11.out.ext x1)
  replace DZ := hide (DZ.out.ext x1)
  replace P13 := hide (P13.out.ext x1)
  replace DV := hide (DV.out.ext x1)
  replace P27 := hide (P27.out.ext x1)
  replace P29 := hide (P29.out.ext x1)
  clear x1
  clear OI
  have qP27 := P27.out.cell
  have lP27 := P27.out.lt
  have qP29 := P29.out.cell
  have lP29 := P29.out.lt
  go_wp2_with fail
  clear qP27 lP27
  clear qP29 lP29
  have OI := hide (DV.out.sScore HN4.out k4 HK4.out)
  rw [hs1.out, hs2.out] at OI
  refine (OI.out).mono ?_
  rintro e w16 ⟨rfl, x1⟩
  replace X := hide (X.out.trans x1)
  replace DX := hide (DX.out.ext x1)
  replace P5 := hide (P5.out.ext x1)
  replace P7 := hide (P7.out.ext x1)
  replace S9 := hide (S9.out.ext x1)
  replace S11 := hide (S11.out.ext x1)
  replace DZ := hide (DZ.out.ext x1)
  replace P13 := hide (P13.out.ext x1)
  replace DV := hide (DV.out.ext x1)
  replace P27 := hide (P27.out.ext x1)
  replace P29 := hide (P29.out.ext x1)
  clear x1
  clear OI
  clear P27 P29 DV
  have UN : Hid (u2 = true → ¬ u1 < 0) := fun h => by rw [← hu1.out]; have := unitLaw_nn d3 it (by rw [hu2.out]; exact h); omega
  have GB : Hid (g2 = true → ¬ g1 < -5 ∧ ¬ 5 < g1) := fun h => by rw [← hg1.out]; obtain ⟨_, _, _, _, _, _, _, _, _, _, _, h1, h2, _⟩ := least_law (d := d2) (xs := xs2) (k := kz) (pts := pz) (by rw [hg2.out]; exact h); exact ⟨by omega, by omega⟩
  go_upto_region 15 with fail
  go_cut [200] (fun s200 wx => s200 = .bool false ∧ Ext w16 wx)
  case first =>
    skip
    have e1 : (J != J) = false := by simp
    have e2 : (g2 != g2) = false := by simp
    have e3 : (g1 != g1) = false := by simp
    have e4 : (u2 != u2) = false := by simp
    have e5 : (u1 != u1) = false := by simp
    have e6 : (s2 != s2) = false := by simp
    have e7 : (s1 != s1) = false := by simp
    have n8b : n9 ≤ 1048576 := by have := columnF_len d xs md jz; rw [hC.out] at this; have := E9.out; have := HN.out; omega
    have c11b := S11.out.cap; have c11m := S11.out.capm
    have QS := hide (S9.out.same S11.out n8b)
    clear n8b
    have U3 := UN.out
    have G3 := GB.out
    clear UN GB hg1 hg2 hu1 hu2 hs1 hs2 hJ hC E9
    cases u2
    · clear U3
      cases g2
      · clear G3
        as_aux_lemma =>
          go_wp2_with fail
          refine QS.out.mono ?_
          rintro e wy ⟨rfl, xy⟩
          go_wp2
          go_meet
          exact ⟨rfl, xy⟩
      · obtain ⟨g3, g4⟩ := G3 rfl
        clear G3
        as_aux_lemma =>
          go_wp2_with fail
          refine QS.out.mono ?_
          rintro e wy ⟨rfl, xy⟩
          go_wp2
          go_meet
          exact ⟨by simp [g3, g4], xy⟩
    · have u3 := U3 rfl
      clear U3
      cases g2
      · clear G3
        as_aux_lemma =>
          go_wp2_with fail
          refine QS.out.mono ?_
          rintro e wy ⟨rfl, xy⟩
          go_wp2
          go_meet
          exact ⟨by simp [u3], xy⟩
      · obtain ⟨g3, g4⟩ := G3 rfl
        clear G3
        as_aux_lemma =>
          go_wp2_with fail
          refine QS.out.mono ?_
          rintro e wy ⟨rfl, xy⟩
          go_wp2
          go_meet
          exact ⟨by simp [u3, g3, g4], xy⟩
  case rest =>
    obtain ⟨rfl, xc⟩ := hcut
    replace X := hide (X.out.trans xc)
    replace DX := hide (DX.out.ext xc)
    replace P5 := hide (P5.out.ext xc)
    replace P7 := hide (P7.out.ext xc)
    replace S9 := hide (S9.out.ext xc)
    replace S11 := hide (S11.out.ext xc)
    replace DZ := hide (DZ.out.ext xc)
    replace P13 := hide (P13.out.ext xc)
    clear xc
    clear S9
    clear UN GB hu1 hu2 hs1 hs2
    go_upto_if 201 with fail
    go_cut [] (fun wx => Ext wc wx)
    case first =>
      as_aux_lemma =>
      cases g2
      · go_wp2
        go_meet
        exact Ext.refl _
      · obtain ⟨k, hk, hkl, hgd, hul, u0, u1_, b0, b1, p0, p1, l0, l1, l2, l3⟩ := least_law hg2.out
        subst hk
        rw [hg1.out] at l0 l1 l2 l3
        obtain ⟨U, hU⟩ : ∃ z, Hid (unitF d2 (xs2.getD k noItem) = z) := ⟨_, rfl⟩
        obtain ⟨B, hB⟩ : ∃ z, Hid (baseF d2 xs2 k = z) := ⟨_, rfl⟩
        rw [hU.out] at hul u0 u1_ l2
        rw [hB.out] at b0 b1 l2 l3
        have UL := hide hul
        have GD := hide hgd
        have L2 := hide l2
        have L3 := hide l3
        have kn : k < n2 := by have := HN2.out; omega
        obtain ⟨x, hxk⟩ : ∃ x, Hid (xs2[k]? = some x) := get_ex xs2 k hkl
        have ex : xs2.getD k noItem = x := getD_some hxk.out
        rw [ex] at UL
        clear hul hgd l2 l3 hU hkl ex
        have XC := hide (Ext.refl wc)
        have IB := hide (DZ.out.iBase HN2.out GD.out kn)
        rw [hB.out] at IB
        have qP13 := P13.out.cell
        have lP13 := P13.out.lt
        go_wp2_with fail
        clear qP13 lP13
        refine (IB.out).mono ?_
        rintro e w17 ⟨rfl, x1⟩
        replace XC := hide (XC.out.trans x1)
        replace DZ := hide (DZ.out.ext x1)
        replace P13 := hide (P13.out.ext x1)
        clear x1
        clear IB
        obtain ⟨bl, ol, C1, e1_, C2, e2_, hA, hbl, i0, i1, i2, L1_, L2_⟩ := DZ.out.lr.item k x hxk.out
        subst hA
        have FB := hide (fun (wq : World) (xq : Ext w17 wq) => i.UnitOf_law wq _ _ d2 x (kC.rd_ext DZ.out.rd xq) DZ.out.ok (kIm.rd_ext (show kIm.rd w17 (.agg #[.slice C1 x.1.length e1_, .slice C2 x.2.1.length e2_, .bool x.2.2]) x from ⟨_, rfl, kdItem.mk_ L1_ L2_⟩) xq) (Nat.le_trans (wtL_at kdItem xs2 k x hxk.out) DZ.out.wt))
        rw [UL.out] at FB
        clear L1_ L2_
        have cc1 := hide DZ.out.lr.1
        have cc2 := hide DZ.out.lr.2.1
        have kz2 : (k : Int) < (n2 : Int) := by omega
        have q5 := P13.out.cell
        have l5 := P13.out.lt
        obtain ⟨v1, hv1⟩ : ∃ z, Hid (x.1.length = z) := ⟨_, rfl⟩
        obtain ⟨v2, hv2⟩ : ∃ z, Hid (x.2.1.length = z) := ⟨_, rfl⟩
        obtain ⟨v3, hv3⟩ : ∃ z, Hid (x.2.2 = z) := ⟨_, rfl⟩
        rw [hv1.out] at i0 FB
        rw [hv2.out] at i1 FB
        rw [hv3.out] at i2 FB
        go_wp2_with fail
        go_region_law (go_simp; go_at_call 20; refine (FB.out _ (Ext.drew _)).mono ?_; rintro e w18 ⟨rfl, x1⟩; have XC := hide (XC.out.trans ((Ext.drew _).trans x1)); clear x1)
        all_goals
          clear q5 l5 i0 i1 i2 FB hbl cc1 cc2 hv1 hv2 hv3
          have lp := L2.out
          have lm := L3.out
          clear L2 L3
          by_cases g5 : g1 = 5
          · have hle : ¬ U + 1 < 2 * (pz - B) := by have := lp g5; omega
            clear lp lm
            subst g5
            have h5 : ((5 : Int) == -5) = false := by decide
            as_aux_lemma =>
              go_wp2
              go_meet
              exact XC.out
          · have h5 : (g1 == 5) = false := by simp [g5]
            clear lp
            by_cases g6 : g1 = -5
            · have hle : ¬ B < pz := by have := lm g6; omega
              clear lm
              subst g6
              have h6 : ((-5 : Int) == 5) = false := by decide
              as_aux_lemma =>
                go_wp2
                go_meet
                exact XC.out
            · have h6 : (g1 == -5) = false := by simp [g6]
              clear lm
              as_aux_lemma =>
                go_wp2
                go_meet
                exact XC.out
    case rest =>
      have xc := hcut
      replace X := hide (X.out.trans xc)
      replace DX := hide (DX.out.ext xc)
      replace P5 := hide (P5.out.ext xc)
      replace P7 := hide (P7.out.ext xc)
      replace S11 := hide (S11.out.ext xc)
      replace DZ := hide (DZ.out.ext xc)
      replace P13 := hide (P13.out.ext xc)
      clear xc hcut
      clear DZ P13
      clear hg1 hg2 HK HP HN2
      cases J
      · go_wp2
        go_ret
        exact ⟨rfl, X.out⟩
      obtain ⟨jd, hl⟩ := columnF_yes hJ.out
      rw [hC.out] at hl
      obtain rfl : n9 = n := by have := E9.out; have := HN.out; omega
      have JD := hide jd
      obtain ⟨hjo, hj9⟩ := judges_yes jd
      have JO := hide hjo
      clear hl jd hjo
      obtain ⟨Jn, hJn⟩ : ∃ z, Hid (judges md = z) := ⟨_, rfl⟩
      rw [hJn.out] at JO hj9
      have SC := hide (scS_yes JD.out).2
      have qP5 := P5.out.cell
      have lP5 := P5.out.lt
      have qP7 := P7.out.cell
      have lP7 := P7.out.lt
      go_wp2_with fail
      clear qP5 lP5
      clear qP7 lP7
      refine (DX.out.iScores HN.out JD.out).mono ?_
      rintro e w19 ⟨A39, n39, c39, rfl, e39, nu39, x1⟩
      replace X := hide (X.out.trans x1)
      replace DX := hide (DX.out.ext x1)
      replace P5 := hide (P5.out.ext x1)
      replace P7 := hide (P7.out.ext x1)
      replace S11 := hide (S11.out.ext x1)
      clear x1
      have S39 := hide nu39
      obtain rfl : n39 = n9 := by rw [← e39, SC.out, HN.out]
      clear nu39 e39
      have JJ := hide DX.out.sJudges
      rw [JO.out] at JJ
      have qP5 := P5.out.cell
      have lP5 := P5.out.lt
      have qP7 := P7.out.cell
      have lP7 := P7.out.lt
      go_wp2_with fail
      clear qP5 lP5
      clear qP7 lP7
      refine (JJ.out).mono ?_
      rintro e w20 ⟨rfl, x1⟩
      replace X := hide (X.out.trans x1)
      replace DX := hide (DX.out.ext x1)
      replace P5 := hide (P5.out.ext x1)
      replace P7 := hide (P7.out.ext x1)
      replace S11 := hide (S11.out.ext x1)
      replace S39 := hide (S39.out.ext x1)
      clear x1
      clear JJ
      have zn : ((n39 : Int) != (n39 : Int)) = false := by simp
      have n14 : n39 ≤ 15 := n15
      have c11b := S11.out.cap; have c11m := S11.out.capm
      go_wp2_with (at_builtin; refine wpList_append_sl rfl (.tmp 273) (.tmp 274) rfl elem_int rfl rfl (lo := w20.heap.size) (Own.empty w20 3 (Nat.le_refl _)) (SlI.ext S11.out.sl (Ext.alloc _ _) (Nat.le_refl _)) (oneCell_ints _) (by omega) (by omega) (by first | omega | (simp; done) | (simp; omega)) ?_)
      intro Al cl wl hap1
      have X1 := hide (hap1.ext (Ext.alloc w20 _) (fun p hp => by injection hp with hp; subst hp; exact Nat.le_refl _))
      have O1 : Hid (OwnI 3 wl w20.heap.size Al n39 cl C) := own_conv hap1.own (Nat.le_refl _) (by omega) (by first | (simp; done) | rfl)
      clear hap1
      have s1_ := X1.out.size
      have SD1 := hide (SlI.ext S11.out.sl X1.out (Nat.le_refl _))
      go_wp2_with (at_builtin; refine wpList_append_sl rfl (.tmp 276) (.tmp 277) rfl elem_int rfl rfl (lo := wl.heap.size) (Own.empty wl 3 (Nat.le_refl _)) (SlI.ext SD1.out (Ext.alloc _ _) s1_) (oneCell_ints _) (by omega) (by omega) (by first | omega | (simp; done) | (simp; omega)) ?_)
      intro Ah ch wh hap2
      have X2 := hide (hap2.ext (Ext.alloc wl _) (fun p hp => by injection hp with hp; subst hp; exact Nat.le_refl _))
      have O2 : Hid (OwnI 3 wh wl.heap.size Ah n39 ch C) := own_conv hap2.own (Nat.le_refl _) (by omega) (by first | (simp; done) | rfl)
      clear hap2 SD1
      have EN : Hid (Enc w20 wh Al Ah n39 cl ch C C) := ⟨Own.below O1.out X2.out (Nat.le_refl _), Own.lower O2.out s1_, fun p q hp hq => by have := Own.lt O1.out p hp; have := Own.fromLo O2.out q hq; omega, X1.out.trans X2.out⟩
      clear O1 O2 X1 X2 s1_ c11b c11m S11
      go_wp2
      go_loopw [45] (fun s wr => ∃ (j : Nat) (zl zh : List Int), s = .int .i64 j ∧ j ≤ Jn ∧ Enc w20 wr Al Ah n39 cl ch zl zh ∧ ColsP d xs md n39 j 0 zl zh) (fun s _ => Jn - (intOf s).toNat)
      case atStart => exact ⟨0, C, C, by go_num, Nat.zero_le _, EN.out, ColsP.none _ _ _ _ _ _⟩
      case round =>
        obtain ⟨j, zl, zh, rfl, hj, en, cp⟩ := hrel
        clear EN
        have EN := hide en
        have CO := hide cp
        clear en cp
        by_cases hlt : j < Jn
        · as_aux_lemma =>
          replace X := hide (X.out.trans EN.out.ext)
          replace DX := hide (DX.out.ext EN.out.ext)
          replace P5 := hide (P5.out.ext EN.out.ext)
          replace P7 := hide (P7.out.ext EN.out.ext)
          replace S39 := hide (S39.out.ext EN.out.ext)
          have CA := columnF_at JD.out (show j < judges md by rw [hJn.out]; exact hlt)
          obtain ⟨C3, hC3⟩ : ∃ z, Hid (colN d xs md j xs.length = z) := ⟨_, rfl⟩
          rw [hC3.out] at CA
          have CA1 := hide (congrArg Prod.fst CA)
          have CA2 := hide (congrArg Prod.snd CA)
          clear CA
          have IRJ : Hid (InR (j : Int)) := by show InR _; unfold InR; omega
          have qP5 := P5.out.cell
          have lP5 := P5.out.lt
          have qP7 := P7.out.cell
          have lP7 := P7.out.lt
          go_wp2_with fail
          clear qP5 lP5
          clear qP7 lP7
          have WX := hide (Ext.refl wr)
          refine (DX.out.iCol HN.out IRJ.out CA1.out CA2.out).mono ?_
          rintro e wk ⟨A46, n46, c46, rfl, e46, nu46, x1⟩
          obtain rfl : n46 = n39 := by rw [← e46, ← hC3.out, colN_len, HN.out]
          have EC := hide (EN.out.col x1 nu46)
          clear nu46 e46 EN IRJ CA1 CA2 WX P5 P7 DX S39 X
          have zn2 : ((n46 : Int) != (n46 : Int)) = false := by simp
          go_wp2
          go_loopw [303] (fun s wr2 => ∃ (k : Nat) (zl zh : List Int), s = .int .i64 k ∧ k ≤ n46 ∧ EncC w20 wr2 Al Ah n46 cl ch zl zh wr.heap.size A46 c46 C3 ∧ ColsP d xs md n46 j k zl zh) (fun s _ => n46 - (intOf s).toNat)
          case atStart => exact ⟨0, zl, zh, by go_num, Nat.zero_le _, EC.out, CO.out⟩
          case round =>
            obtain ⟨k, yl, yh, rfl, hk, en, cp⟩ := hrel
            clear EC CO
            have EC := hide en
            have CO := hide cp
            clear en cp
            by_cases hkt : k < n46
            · skip
              obtain ⟨gl, rfl, -, -, cpl⟩ := OwnI.pos EC.out.en.ol (by omega)
              obtain ⟨gh, rfl, -, -, cph⟩ := OwnI.pos EC.out.en.oh (by omega)
              obtain ⟨gc, rfl, -, -, cpc⟩ := OwnI.pos EC.out.oc (by omega)
              have rl := EC.out.en.ol.cell k hkt
              have rh := EC.out.en.oh.cell k hkt
              have rc := EC.out.oc.cell k hkt
              have fl := EC.out.en.ol.free k
              have fh := EC.out.en.oh.free k
              have ml := EC.out.en.ol.capm
              have mh := EC.out.en.oh.capm
              have mc := EC.out.oc.capm
              have hle := EC.out.en.ol.len
              have hhe := EC.out.en.oh.len
              have nlh : gl ≠ gh := EC.out.en.ne _ _ rfl rfl
              have nhl := Ne.symm nlh
              have CY : C3.getD k 0 = colAt d xs md j k := by rw [← hC3.out]; exact colN_at d xs md j (by have := HN.out; omega)
              obtain ⟨y, hy⟩ : ∃ z, Hid (colAt d xs md j k = z) := ⟨_, rfl⟩
              rw [CY, hy.out] at rc
              obtain ⟨a, ha⟩ : ∃ z, Hid (yl.getD k 0 = z) := ⟨_, rfl⟩
              obtain ⟨b, hb⟩ : ∃ z, Hid (yh.getD k 0 = z) := ⟨_, rfl⟩
              rw [ha.out] at rl
              rw [hb.out] at rh
              have iz : (k : Int) < (n46 : Int) := by omega
              clear CY
              have GL := hide (show k < yl.length by omega)
              have GH := hide (show k < yh.length by omega)
              clear hle hhe
              by_cases h1 : y < a
              · by_cases h2 : b < y
                · have E9 := hide ((EC.out.setL k y).setH k y)
                  have C9 := hide (ColsP.put ((CO.out.setL GL.out (show y < yl.getD k 0 by rw [ha.out]; exact h1)).setH GH.out (show yh.getD k 0 < y by rw [hb.out]; exact h2)) (by rw [hy.out, getD_setZ yl k k y GL.out, if_pos rfl]; omega) (by rw [hy.out, getD_setZ yh k k y GH.out, if_pos rfl]; omega))
                  clear EC CO
                  go_wp2
                  go_roundw
                  case rel => exact ⟨k + 1, (yl.set k y), (yh.set k y), by go_num, by omega, E9.out, C9.out⟩
                  case measure => simp [intOf]; omega
                · have E9 := hide (EC.out.setL k y)
                  have C9 := hide (ColsP.put (CO.out.setL GL.out (show y < yl.getD k 0 by rw [ha.out]; exact h1)) (by rw [hy.out, getD_setZ yl k k y GL.out, if_pos rfl]; omega) (by rw [hy.out, hb.out]; omega))
                  clear EC CO
                  go_wp2
                  go_roundw
                  case rel => exact ⟨k + 1, (yl.set k y), yh, by go_num, by omega, E9.out, C9.out⟩
                  case measure => simp [intOf]; omega
              · by_cases h2 : b < y
                · have E9 := hide (EC.out.setH k y)
                  have C9 := hide (ColsP.put (CO.out.setH GH.out (show yh.getD k 0 < y by rw [hb.out]; exact h2)) (by rw [hy.out, ha.out]; omega) (by rw [hy.out, getD_setZ yh k k y GH.out, if_pos rfl]; omega))
                  clear EC CO
                  go_wp2
                  go_roundw
                  case rel => exact ⟨k + 1, yl, (yh.set k y), by go_num, by omega, E9.out, C9.out⟩
                  case measure => simp [intOf]; omega
                · have E9 := hide EC.out
                  have C9 := hide (ColsP.put CO.out (by rw [hy.out, ha.out]; omega) (by rw [hy.out, hb.out]; omega))
                  clear EC CO
                  go_wp2
                  go_roundw
                  case rel => exact ⟨k + 1, yl, yh, by go_num, by omega, E9.out, C9.out⟩
                  case measure => simp [intOf]; omega
            · obtain rfl : k = n46 := by omega
              have E9 := hide EC.out.en
              have C9 := hide CO.out.next
              clear EC CO
              go_wp2
              go_roundw
              case rel => exact ⟨j + 1, yl, yh, by go_num, by omega, E9.out, C9.out⟩
              case measure => simp [intOf]; omega
        · obtain rfl : j = Jn := by omega
          replace X := hide (X.out.trans EN.out.ext)
          replace DX := hide (DX.out.ext EN.out.ext)
          replace P5 := hide (P5.out.ext EN.out.ext)
          replace P7 := hide (P7.out.ext EN.out.ext)
          replace S39 := hide (S39.out.ext EN.out.ext)
          clear P5 P7 DX
          go_wp2
          go_loopw [331] (fun s wq => ∃ i : Nat, s = .int .i64 i ∧ i ≤ n39 ∧ Ext wr wq) (fun s _ => n39 - (intOf s).toNat)
          case atStart => exact ⟨0, by go_num, Nat.zero_le _, Ext.refl _⟩
          case round =>
            obtain ⟨i, rfl, hi, x1⟩ := hrel
            have YX := hide x1
            have T39 := hide (S39.out.ext x1)
            have TE := hide (EN.out.ext' x1)
            clear x1
            by_cases hit : i < n39
            · as_aux_lemma =>
              have cs := cols_score JD.out (show ColsP d xs md xs.length (judges md) 0 zl zh by rw [hJn.out, HN.out]; exact CO.out) (show i < xs.length by rw [HN.out]; exact hit)
              obtain ⟨b9, o9, rfl, hb9, hc9⟩ := T39.out.sl.cells (by omega)
              have wi := hc9 i hit
              have cs9 := T39.out.cap; have cm9 := T39.out.capm
              obtain ⟨gl, rfl, -, -, cpl⟩ := OwnI.pos TE.out.ol (by omega)
              obtain ⟨gh, rfl, -, -, cph⟩ := OwnI.pos TE.out.oh (by omega)
              have rl := TE.out.ol.cell i hit
              have rh := TE.out.oh.cell i hit
              have ml := TE.out.ol.capm
              have mh := TE.out.oh.capm
              generalize (scS d xs md).getD i 0 = y at *
              generalize zl.getD i 0 = a at *
              generalize zh.getD i 0 = b at *
              obtain ⟨h1, h2⟩ := cs
              have iz : (i : Int) < (n39 : Int) := by omega
              clear hc9
              go_wp2
              go_roundw
              case rel => exact ⟨i + 1, by go_num, by omega, YX.out⟩
              case measure => simp [intOf]; omega
            · go_wp2
              go_ret
              exact ⟨rfl, X.out.trans YX.out⟩
end Go.Proofs.YtaoeomgehpdedaaGreat
