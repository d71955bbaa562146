/- The walk of FnRules: drawn lists of items; broken rules, counts, room, families and late items. (Printed by fr.py.) -/
import Derived.Test.YtijgndfhfggipaaFI
import Derived.Deep.DeepCutAuto
namespace Go.Proofs.Ytijgndfhfggipaa
open Go.RowKit Go.Sort
set_option linter.unusedVariables false

set_option maxRecDepth 100000 in
set_option maxHeartbeats 20000000 in
theorem FnRules_walk (a0 : Option Addr) (n0 c0 : Nat) (a1 : Option Addr) (n1 c1 : Nat) (w : World) (h0 : ArgB w a0 n0 c0) (h1 : ArgB w a1 n1 c1) :
    Calls Try.prog 3 #[.slice a0 n0 c0, .slice a1 n1 c1] w fun e w' => e = .returned (.bool true) ∧ Ext w w' := by
  have p0 := h0.cap; have p0' := h0.capm; have p1 := h1.cap; have p1' := h1.capm
  have H0 := hide h0
  have H1 := hide h1
  clear h0 h1
  obtain ⟨sm, hsm⟩ : ∃ sm, Hid (IntKind.i64.wrap ((n0 : Int) + n1) = sm) := ⟨_, rfl⟩
  have X := hide (Ext.refl w)
  go_enter Try.func3, Try.ntmps3
  go_wp2_with fail
  · go_ret
    exact ⟨rfl, X.out⟩
  clear hsm p0 p0' p1 p1'
  refine (s.DrawBrokenRules_m w _ _ _ H0.out).mono ?_
  rintro e w1 ⟨a1, am1, ad1, a2, am2, ad2, ar, ab, ak, af, A, n, c, rfl, hc, hl, x1⟩
  replace X := hide (X.out.trans x1)
  replace H1 := hide (H1.out.ext x1)
  clear x1
  obtain ⟨d, xs, dw, hn⟩ := dr_of hc hl
  have DX := hide dw
  have HN := hide hn
  clear hc hl dw hn H0
  obtain ⟨G, hG⟩ : ∃ G, Hid (validB d xs = G) := ⟨_, rfl⟩
  obtain ⟨w2, hW⟩ : ∃ W, Hid (W = w1.alloc (.cells #[.slice a1 am1 ad1, .slice a2 am2 ad2, .int .i64 ar, .int .i64 ab, .int .i64 ak, .int .i64 af] 26)) := ⟨_, rfl⟩
  have xa : Ext w1 w2 := by rw [hW.out]; exact Ext.alloc _ _
  obtain ⟨gP5, hg⟩ : ∃ g, Hid (g = w1.heap.size) := ⟨_, rfl⟩
  have P5 : Hid (Blk w2 gP5 #[.slice a1 am1 ad1, .slice a2 am2 ad2, .int .i64 ar, .int .i64 ab, .int .i64 ak, .int .i64 af] 26) := by rw [hW.out, hg.out]; exact Blk.new rfl _ _
  replace X := hide (X.out.trans xa)
  replace H1 := hide (H1.out.ext xa)
  replace DX := hide (DX.out.ext xa)
  clear xa
  go_wp2_with fail
  rw [← hW.out, ← hg.out]
  clear hW hg
  refine (DX.out.iBrk HN.out hG.out).mono ?_
  rintro e w3 ⟨A7, n7, c7, rfl, e7, nu7, x1⟩
  replace X := hide (X.out.trans x1)
  replace H1 := hide (H1.out.ext x1)
  replace DX := hide (DX.out.ext x1)
  replace P5 := hide (P5.out.ext x1)
  clear x1
  have S7 := hide nu7
  have E7 := hide e7
  clear nu7 e7
  have qP5 := P5.out.cell
  have lP5 := P5.out.lt
  go_wp2_with fail
  clear qP5 lP5
  refine (DX.out.sBrk HN.out hG.out).mono ?_
  rintro e w4 ⟨A9, n9, c9, rfl, e9, nu9, x1⟩
  replace X := hide (X.out.trans x1)
  replace H1 := hide (H1.out.ext x1)
  replace DX := hide (DX.out.ext x1)
  replace P5 := hide (P5.out.ext x1)
  replace S7 := hide (S7.out.ext x1)
  clear x1
  have S9 := hide nu9
  have E9 := hide e9
  clear nu9 e9
  obtain rfl : n7 = n9 := by rw [E9.out, E7.out]
  clear E9
  have qP5 := P5.out.cell
  have lP5 := P5.out.lt
  go_wp2_with fail
  clear qP5 lP5
  obtain ⟨PB, hPB⟩ : ∃ z, Hid ((progLaw d xs).1 = z) := ⟨_, rfl⟩
  have OI := hide (DX.out.iProg HN.out hG.out)
  rw [hPB.out] at OI
  refine (OI.out).mono ?_
  rintro e w5 ⟨rfl, x1⟩
  replace X := hide (X.out.trans x1)
  replace H1 := hide (H1.out.ext x1)
  replace DX := hide (DX.out.ext x1)
  replace P5 := hide (P5.out.ext x1)
  replace S7 := hide (S7.out.ext x1)
  replace S9 := hide (S9.out.ext x1)
  clear x1
  clear OI
  have qP5 := P5.out.cell
  have lP5 := P5.out.lt
  go_wp2_with fail
  clear qP5 lP5
  have OI := hide (DX.out.sProg HN.out hG.out)
  rw [hPB.out] at OI
  refine (OI.out).mono ?_
  rintro e w6 ⟨rfl, x1⟩
  replace X := hide (X.out.trans x1)
  replace H1 := hide (H1.out.ext x1)
  replace DX := hide (DX.out.ext x1)
  replace P5 := hide (P5.out.ext x1)
  replace S7 := hide (S7.out.ext x1)
  replace S9 := hide (S9.out.ext x1)
  clear x1
  clear OI
  have qP5 := P5.out.cell
  have lP5 := P5.out.lt
  go_wp2_with fail
  clear qP5 lP5
  refine (DX.out.iCnt HN.out hG.out).mono ?_
  rintro e w7 ⟨A15, n15, c15, rfl, e15, nu15, x1⟩
  replace X := hide (X.out.trans x1)
  replace H1 := hide (H1.out.ext x1)
  replace DX := hide (DX.out.ext x1)
  replace P5 := hide (P5.out.ext x1)
  replace S7 := hide (S7.out.ext x1)
  replace S9 := hide (S9.out.ext x1)
  clear x1
  have S15 := hide nu15
  have E15 := hide e15
  clear nu15 e15
  have qP5 := P5.out.cell
  have lP5 := P5.out.lt
  go_wp2_with fail
  clear qP5 lP5
  refine (DX.out.sCnt HN.out hG.out).mono ?_
  rintro e w8 ⟨A17, n17, c17, rfl, e17, nu17, x1⟩
  replace X := hide (X.out.trans x1)
  replace H1 := hide (H1.out.ext x1)
  replace DX := hide (DX.out.ext x1)
  replace P5 := hide (P5.out.ext x1)
  replace S7 := hide (S7.out.ext x1)
  replace S9 := hide (S9.out.ext x1)
  replace S15 := hide (S15.out.ext x1)
  clear x1
  have S17 := hide nu17
  have E17 := hide e17
  clear nu17 e17
  obtain rfl : n15 = n17 := by rw [E17.out, E15.out]
  clear E17
  have qP5 := P5.out.cell
  have lP5 := P5.out.lt
  go_wp2_with fail
  clear qP5 lP5
  refine (DX.out.iRoom HN.out hG.out).mono ?_
  rintro e w9 ⟨A19, n19, c19, rfl, e19, nu19, x1⟩
  replace X := hide (X.out.trans x1)
  replace H1 := hide (H1.out.ext x1)
  replace DX := hide (DX.out.ext x1)
  replace P5 := hide (P5.out.ext x1)
  replace S7 := hide (S7.out.ext x1)
  replace S9 := hide (S9.out.ext x1)
  replace S15 := hide (S15.out.ext x1)
  replace S17 := hide (S17.out.ext x1)
  clear x1
  have S19 := hide nu19
  have E19 := hide e19
  clear nu19 e19
  have qP5 := P5.out.cell
  have lP5 := P5.out.lt
  go_wp2_with fail
  clear qP5 lP5
  refine (DX.out.sRoom HN.out hG.out).mono ?_
  rintro e w10 ⟨A21, n21, c21, rfl, e21, nu21, x1⟩
  replace X := hide (X.out.trans x1)
  replace H1 := hide (H1.out.ext x1)
  replace DX := hide (DX.out.ext x1)
  replace P5 := hide (P5.out.ext x1)
  replace S7 := hide (S7.out.ext x1)
  replace S9 := hide (S9.out.ext x1)
  replace S15 := hide (S15.out.ext x1)
  replace S17 := hide (S17.out.ext x1)
  replace S19 := hide (S19.out.ext x1)
  clear x1
  have S21 := hide nu21
  have E21 := hide e21
  clear nu21 e21
  obtain rfl : n19 = n21 := by rw [E21.out, E19.out]
  clear E21
  go_wp2_with fail
  refine (s.DrawRuleHolds_m _ _ _ _ H1.out).mono ?_
  rintro e w11 ⟨z1, zm1, zd1, z2, zm2, zd2, zr, zb, zk, zf, A2, n2, c2, rz, rfl, hrz, hc, hl, x1⟩
  replace X := hide (X.out.trans x1)
  replace H1 := hide (H1.out.ext x1)
  replace DX := hide (DX.out.ext x1)
  replace P5 := hide (P5.out.ext x1)
  replace S7 := hide (S7.out.ext x1)
  replace S9 := hide (S9.out.ext x1)
  replace S15 := hide (S15.out.ext x1)
  replace S17 := hide (S17.out.ext x1)
  replace S19 := hide (S19.out.ext x1)
  replace S21 := hide (S21.out.ext x1)
  clear x1
  obtain ⟨d2, xs2, dw2, hn2⟩ := dr_of hc hl
  have DZ := hide dw2
  have HN2 := hide hn2
  clear hc hl dw2 hn2 hrz
  obtain ⟨w12, hW⟩ : ∃ W, Hid (W = w11.alloc (.cells #[.slice z1 zm1 zd1, .slice z2 zm2 zd2, .int .i64 zr, .int .i64 zb, .int .i64 zk, .int .i64 zf] 26)) := ⟨_, rfl⟩
  have xa : Ext w11 w12 := by rw [hW.out]; exact Ext.alloc _ _
  obtain ⟨gP23, hg⟩ : ∃ g, Hid (g = w11.heap.size) := ⟨_, rfl⟩
  have P23 : Hid (Blk w12 gP23 #[.slice z1 zm1 zd1, .slice z2 zm2 zd2, .int .i64 zr, .int .i64 zb, .int .i64 zk, .int .i64 zf] 26) := by rw [hW.out, hg.out]; exact Blk.new rfl _ _
  replace X := hide (X.out.trans xa)
  replace H1 := hide (H1.out.ext xa)
  replace DX := hide (DX.out.ext xa)
  replace P5 := hide (P5.out.ext xa)
  replace S7 := hide (S7.out.ext xa)
  replace S9 := hide (S9.out.ext xa)
  replace S15 := hide (S15.out.ext xa)
  replace S17 := hide (S17.out.ext xa)
  replace S19 := hide (S19.out.ext xa)
  replace S21 := hide (S21.out.ext xa)
  replace DZ := hide (DZ.out.ext xa)
  clear xa
  go_wp2_with fail
  rw [← hW.out, ← hg.out]
  clear hW hg
  obtain ⟨o1, ho1⟩ : ∃ b, Hid ((holdsLaw d2 xs2 rz).1 = b) := ⟨_, rfl⟩
  obtain ⟨o2, ho2⟩ : ∃ b, Hid ((holdsLaw d2 xs2 rz).2 = b) := ⟨_, rfl⟩
  have OI := hide (DZ.out.iRule HN2.out rz)
  rw [ho1.out, ho2.out] at OI
  refine (OI.out).mono ?_
  rintro e w13 ⟨rfl, x1⟩
  replace X := hide (X.out.trans x1)
  replace H1 := hide (H1.out.ext x1)
  replace DX := hide (DX.out.ext x1)
  replace P5 := hide (P5.out.ext x1)
  replace S7 := hide (S7.out.ext x1)
  replace S9 := hide (S9.out.ext x1)
  replace S15 := hide (S15.out.ext x1)
  replace S17 := hide (S17.out.ext x1)
  replace S19 := hide (S19.out.ext x1)
  replace S21 := hide (S21.out.ext x1)
  replace DZ := hide (DZ.out.ext x1)
  replace P23 := hide (P23.out.ext x1)
  clear x1
  clear OI
  have qP23 := P23.out.cell
  have lP23 := P23.out.lt
  go_wp2_with fail
  clear qP23 lP23
  have OI := hide (DZ.out.sRule HN2.out rz)
  rw [ho1.out, ho2.out] at OI
  refine (OI.out).mono ?_
  rintro e w14 ⟨rfl, x1⟩
  replace X := hide (X.out.trans x1)
  replace H1 := hide (H1.out.ext x1)
  replace DX := hide (DX.out.ext x1)
  replace P5 := hide (P5.out.ext x1)
  replace S7 := hide (S7.out.ext x1)
  replace S9 := hide (S9.out.ext x1)
  replace S15 := hide (S15.out.ext x1)
  replace S17 := hide (S17.out.ext x1)
  replace S19 := hide (S19.out.ext x1)
  replace S21 := hide (S21.out.ext x1)
  replace DZ := hide (DZ.out.ext x1)
  replace P23 := hide (P23.out.ext x1)
  clear x1
  clear OI
  clear DZ P23
  clear ho1 ho2 HN2
  go_wp2_with fail
  refine (s.DrawFamilyOf_m _ _ _ _ H1.out).mono ?_
  rintro e w15 ⟨y1, ym1, yd1, y2, ym2, yd2, yr, yb, yk, yf, B1, k1, d1, B2, k2, d2_, qq, rfl, hc, hi, x1⟩
  replace X := hide (X.out.trans x1)
  replace H1 := hide (H1.out.ext x1)
  replace DX := hide (DX.out.ext x1)
  replace P5 := hide (P5.out.ext x1)
  replace S7 := hide (S7.out.ext x1)
  replace S9 := hide (S9.out.ext x1)
  replace S15 := hide (S15.out.ext x1)
  replace S17 := hide (S17.out.ext x1)
  replace S19 := hide (S19.out.ext x1)
  replace S21 := hide (S21.out.ext x1)
  clear x1
  obtain ⟨d3, it, dw3⟩ := di_of hc hi
  have DI := hide dw3
  clear hc hi dw3
  clear H1
  obtain ⟨w16, hW⟩ : ∃ W, Hid (W = (w15.alloc (.cells #[.slice y1 ym1 yd1, .slice y2 ym2 yd2, .int .i64 yr, .int .i64 yb, .int .i64 yk, .int .i64 yf] 26)).alloc (.cells #[.slice B1 k1 d1, .slice B2 k2 d2_, .bool qq] 39)) := ⟨_, rfl⟩
  have xa : Ext w15 w16 := by rw [hW.out]; exact (Ext.alloc _ _).trans (Ext.alloc _ _)
  obtain ⟨g30, hg⟩ : ∃ g, Hid (g = w15.heap.size) := ⟨_, rfl⟩
  obtain ⟨g31, hg1⟩ : ∃ g, Hid (g = w15.heap.size + 1) := ⟨_, rfl⟩
  have P30 : Hid (Blk w16 g30 #[.slice y1 ym1 yd1, .slice y2 ym2 yd2, .int .i64 yr, .int .i64 yb, .int .i64 yk, .int .i64 yf] 26) := by rw [hW.out, hg.out]; exact (Blk.new rfl _ _).alloc _
  have P31 : Hid (Blk w16 g31 #[.slice B1 k1 d1, .slice B2 k2 d2_, .bool qq] 39) := by rw [hW.out, hg1.out]; exact Blk.new (by simp) _ _
  replace X := hide (X.out.trans xa)
  replace DX := hide (DX.out.ext xa)
  replace P5 := hide (P5.out.ext xa)
  replace S7 := hide (S7.out.ext xa)
  replace S9 := hide (S9.out.ext xa)
  replace S15 := hide (S15.out.ext xa)
  replace S17 := hide (S17.out.ext xa)
  replace S19 := hide (S19.out.ext xa)
  replace S21 := hide (S21.out.ext xa)
  replace DI := hide (DI.out.ext xa)
  clear xa
  go_wp2_with fail
  rw [← hW.out, ← hg1.out, ← hg.out]
  clear hW hg hg1
  obtain ⟨f1, hf1⟩ : ∃ b, Hid ((famOf d3 it).1 = b) := ⟨_, rfl⟩
  obtain ⟨f2, hf2⟩ : ∃ b, Hid ((famOf d3 it).2 = b) := ⟨_, rfl⟩
  have OI := hide (DI.out.iFam)
  rw [hf1.out, hf2.out] at OI
  refine (OI.out).mono ?_
  rintro e w17 ⟨rfl, x1⟩
  replace X := hide (X.out.trans x1)
  replace DX := hide (DX.out.ext x1)
  replace P5 := hide (P5.out.ext x1)
  replace S7 := hide (S7.out.ext x1)
  replace S9 := hide (S9.out.ext x1)
  replace S15 := hide (S15.out.ext x1)
  replace S17 := hide (S17.out.ext x1)
  replace S19 := hide (S19.out.ext x1)
  replace S21 := hide (S21.out.ext x1)
  replace DI := hide (DI.out.ext x1)
  replace P30 := hide (P30.out.ext x1)
  replace P31 := hide (P31.out.ext x1)
  clear x1
  clear OI
  have qP30 := P30.out.cell
  have lP30 := P30.out.lt
  have qP31 := P31.out.cell
  have lP31 := P31.out.lt
  go_wp2_with fail
  clear qP30 lP30
  clear qP31 lP31
  have OI := hide (DI.out.sFam)
  rw [hf1.out, hf2.out] at OI
  refine (OI.out).mono ?_
  rintro e w18 ⟨rfl, x1⟩
  replace X := hide (X.out.trans x1)
  replace DX := hide (DX.out.ext x1)
  replace P5 := hide (P5.out.ext x1)
  replace S7 := hide (S7.out.ext x1)
  replace S9 := hide (S9.out.ext x1)
  replace S15 := hide (S15.out.ext x1)
  replace S17 := hide (S17.out.ext x1)
  replace S19 := hide (S19.out.ext x1)
  replace S21 := hide (S21.out.ext x1)
  replace DI := hide (DI.out.ext x1)
  replace P30 := hide (P30.out.ext x1)
  replace P31 := hide (P31.out.ext x1)
  clear x1
  clear OI
  have e1 : (G != G) = false := by simp
  have e2 : (PB != PB) = false := by simp
  have e3 : (o2 != o2) = false := by simp
  have e4 : (o1 != o1) = false := by simp
  have e5 : (f2 != f2) = false := by simp
  have e6 : (f1 != f1) = false := by simp
  have n8 : n7 ≤ 1048576 := by have := brkL_len d xs; have := E7.out; omega
  have n5 : n15 ≤ 1048576 := by have := countR_le d xs; have := E15.out; omega
  have n6 : n19 ≤ 1048576 := by have := roomR_le d xs; have := E19.out; omega
  go_wp2_with fail
  refine (S7.out.same S9.out n8).mono ?_
  rintro e w19 ⟨rfl, x1⟩
  replace X := hide (X.out.trans x1)
  replace DX := hide (DX.out.ext x1)
  replace P5 := hide (P5.out.ext x1)
  replace S7 := hide (S7.out.ext x1)
  replace S9 := hide (S9.out.ext x1)
  replace S15 := hide (S15.out.ext x1)
  replace S17 := hide (S17.out.ext x1)
  replace S19 := hide (S19.out.ext x1)
  replace S21 := hide (S21.out.ext x1)
  replace DI := hide (DI.out.ext x1)
  replace P30 := hide (P30.out.ext x1)
  replace P31 := hide (P31.out.ext x1)
  clear x1
  go_wp2_with fail
  refine (S15.out.same S17.out n5).mono ?_
  rintro e w20 ⟨rfl, x1⟩
  replace X := hide (X.out.trans x1)
  replace DX := hide (DX.out.ext x1)
  replace P5 := hide (P5.out.ext x1)
  replace S7 := hide (S7.out.ext x1)
  replace S9 := hide (S9.out.ext x1)
  replace S15 := hide (S15.out.ext x1)
  replace S17 := hide (S17.out.ext x1)
  replace S19 := hide (S19.out.ext x1)
  replace S21 := hide (S21.out.ext x1)
  replace DI := hide (DI.out.ext x1)
  replace P30 := hide (P30.out.ext x1)
  replace P31 := hide (P31.out.ext x1)
  clear x1
  go_wp2_with fail
  refine (S19.out.same S21.out n6).mono ?_
  rintro e w21 ⟨rfl, x1⟩
  replace X := hide (X.out.trans x1)
  replace DX := hide (DX.out.ext x1)
  replace P5 := hide (P5.out.ext x1)
  replace S7 := hide (S7.out.ext x1)
  replace S9 := hide (S9.out.ext x1)
  replace S15 := hide (S15.out.ext x1)
  replace S17 := hide (S17.out.ext x1)
  replace S19 := hide (S19.out.ext x1)
  replace S21 := hide (S21.out.ext x1)
  replace DI := hide (DI.out.ext x1)
  replace P30 := hide (P30.out.ext x1)
  replace P31 := hide (P31.out.ext x1)
  clear x1
  clear n8 n5 n6
  clear S7 S15 S19
  go_upto_if 223 with fail
  clear e1 e2 e3 e4 e5 e6
  go_cut [] (fun wx => Ext w21 wx)
  case first =>
    as_aux_lemma =>
    cases f2
    · go_wp2
      go_meet
      exact Ext.refl _
    · obtain ⟨u1, hu1⟩ : ∃ b, Hid ((famIt d3 it).1 = b) := ⟨_, rfl⟩
      obtain ⟨u2, hu2⟩ : ∃ b, Hid ((famIt d3 it).2 = b) := ⟨_, rfl⟩
      have XC := hide (Ext.refl w21)
      have qP30 := P30.out.cell
      have lP30 := P30.out.lt
      have qP31 := P31.out.cell
      have lP31 := P31.out.lt
      go_wp2_with fail
      clear qP30 lP30
      clear qP31 lP31
      have OI := hide (DI.out.iItem)
      rw [hu1.out, hu2.out] at OI
      refine (OI.out).mono ?_
      rintro e w22 ⟨rfl, x1⟩
      replace XC := hide (XC.out.trans x1)
      replace DI := hide (DI.out.ext x1)
      replace P30 := hide (P30.out.ext x1)
      replace P31 := hide (P31.out.ext x1)
      clear x1
      clear OI
      have qP30 := P30.out.cell
      have lP30 := P30.out.lt
      have qP31 := P31.out.cell
      have lP31 := P31.out.lt
      go_wp2_with fail
      clear qP30 lP30
      clear qP31 lP31
      have OI := hide (DI.out.sItem)
      rw [hu1.out, hu2.out] at OI
      refine (OI.out).mono ?_
      rintro e w23 ⟨rfl, x1⟩
      replace XC := hide (XC.out.trans x1)
      replace DI := hide (DI.out.ext x1)
      replace P30 := hide (P30.out.ext x1)
      replace P31 := hide (P31.out.ext x1)
      clear x1
      clear OI
      have e7 : (u2 != u2) = false := by simp
      have e8 : (u1 != u1) = false := by simp
      cases u2
      · clear hu2
        go_wp2
        go_meet
        exact XC.out
      · have e9 : (u1 != f1) = false := by rw [← hu1.out, ← hf1.out, fam_same hf2.out hu2.out]; simp
        clear hu2
        go_wp2
        go_meet
        exact XC.out
  case rest =>
    have xc := hcut
    replace X := hide (X.out.trans xc)
    replace DX := hide (DX.out.ext xc)
    replace P5 := hide (P5.out.ext xc)
    replace S9 := hide (S9.out.ext xc)
    replace S17 := hide (S17.out.ext xc)
    replace S21 := hide (S21.out.ext xc)
    replace DI := hide (DI.out.ext xc)
    replace P30 := hide (P30.out.ext xc)
    replace P31 := hide (P31.out.ext xc)
    clear xc hcut
    clear DI P30 P31
    clear hf1 hf2
    cases G
    · go_wp2
      go_ret
      exact ⟨rfl, X.out⟩
    have HL : Hid (xs.length ≤ 1048576) := Nat.le_trans (wtL_len kdItem xs) DX.out.wt
    obtain rfl : n15 = 5 := by rw [E15.out, countR_len hG.out]
    obtain rfl : n19 = 5 := by rw [E19.out, roomR_len hG.out]
    go_wp2
    go_loopw [40] (fun s wr => ∃ k : Nat, s = .int .i64 ((k : Int) + 1) ∧ k ≤ 8 ∧ Ext wc wr) (fun s _ => 9 - (intOf s).toNat)
    case atStart => exact ⟨0, rfl, by omega, Ext.refl _⟩
    case round =>
      obtain ⟨k, rfl, hk, x1⟩ := hrel
      have YX := hide x1
      have LX := hide (X.out.trans x1)
      have LDX := hide (DX.out.ext x1)
      have LP5 := hide (P5.out.ext x1)
      have LS9 := hide (S9.out.ext x1)
      have LS17 := hide (S17.out.ext x1)
      have LS21 := hide (S21.out.ext x1)
      clear x1
      by_cases hlt : k < 8
      · as_aux_lemma =>
        have HR := hide (holds_yes hG.out k hlt)
        have HB := hide (brk_has hG.out k hlt)
        obtain ⟨R, hR⟩ : ∃ z, Hid (ruleB d xs ((k : Int) + 1) = z) := ⟨_, rfl⟩
        rw [hR.out] at HR HB
        have OI := hide (LDX.out.iRule HN.out ((k : Int) + 1))
        rw [HR.out] at OI
        have kz : (k : Int) < 8 := by omega
        have kz1 : (k : Int) + 1 ≤ 8 := by omega
        clear HR
        have q5 := LP5.out.cell
        have l5 := LP5.out.lt
        go_wp2_with fail
        clear q5 l5
        refine (OI.out).mono ?_
        rintro e w24 ⟨rfl, x1⟩
        replace YX := hide (YX.out.trans x1)
        replace LS9 := hide (LS9.out.ext x1)
        clear x1
        clear OI
        have n8 : n7 ≤ 1048576 := by have := brkL_len d xs; have := E7.out; omega
        have Q1 := hide (l.qHas_m A9 n7 c9 _ _ ((k : Int) + 1) w24 LS9.out.sl n8)
        rw [HB.out] at Q1
        clear n8
        go_wp2_with fail
        refine Q1.out.mono ?_
        rintro e wq ⟨rfl, rfl⟩
        have e9 : (R == !R) = false := by cases R <;> rfl
        go_wp2
        go_roundw
        case rel => exact ⟨k + 1, by go_num, by omega, YX.out⟩
        case measure => simp [intOf]; omega
      · obtain rfl : k = 8 := by omega
        have kz : ¬ ((8 : Nat) : Int) + 1 ≤ 8 := by omega
        clear X DX P5 S9 S17 S21
        have X := LX
        have DX := LDX
        have P5 := LP5
        have S9 := LS9
        have S17 := LS17
        have S21 := LS21
        clear LX LDX LP5 LS9 LS17 LS21
        clear YX
        skip
        go_wp2
        go_loopw [276] (fun s wr2 => ∃ k : Nat, s = .int .i64 k ∧ k ≤ 5 ∧ Ext wr wr2) (fun s _ => 5 - (intOf s).toNat)
        case atStart => exact ⟨0, by go_num, by omega, Ext.refl _⟩
        case round =>
          obtain ⟨k, rfl, hk, x1⟩ := hrel
          have YX := hide x1
          have LX := hide (X.out.trans x1)
          have LDX := hide (DX.out.ext x1)
          have LP5 := hide (P5.out.ext x1)
          have LS9 := hide (S9.out.ext x1)
          have LS17 := hide (S17.out.ext x1)
          have LS21 := hide (S21.out.ext x1)
          clear x1
          by_cases hlt : k < 5
          · as_aux_lemma =>
            have RS := room_sum hG.out HL.out k hlt
            obtain ⟨b1, o1_, e1_, hb1, hc1⟩ := LS17.out.sl.cells (by omega)
            subst e1_
            obtain ⟨b2, o2_, e2_, hb2, hc2⟩ := LS21.out.sl.cells (by omega)
            subst e2_
            have r1 := hc1 k hlt
            have r2 := hc2 k hlt
            have LM := kC.lim1 LDX.out.rd
            have L5 := (codeB_ok (valid_two hG.out).1).lim
            obtain ⟨b3, o3_, e3_, hb3, hc3⟩ := LM.2.sl.cells (by omega)
            subst e3_
            have r3 := hc3 k (by omega)
            obtain ⟨y1, hy1⟩ : ∃ z, Hid ((countR d xs).getD k 0 = z) := ⟨_, rfl⟩
            obtain ⟨y2, hy2⟩ : ∃ z, Hid ((roomR d xs).getD k 0 = z) := ⟨_, rfl⟩
            obtain ⟨y3, hy3⟩ : ∃ z, Hid (d.2.1.getD k 0 = z) := ⟨_, rfl⟩
            rw [hy1.out] at r1 RS
            rw [hy2.out] at r2 RS
            rw [hy3.out] at r3 RS
            obtain ⟨m1, m2, m3, m4, m5⟩ := RS
            have am : am2 = 5 := by rw [LM.1, L5]
            subst am
            have kz : (k : Int) < 5 := by omega
            have hw := IntWalk.i64_in (y1 + y2) (by omega)
            rw [m5] at hw
            have e9 : (y1 + y2 != y3) = false := by rw [m5]; simp
            have cm := LS17.out.capm; have cm2 := LS21.out.capm; have cm3 := LM.2.2.1
            have cp := LS17.out.cap; have cp2 := LS21.out.cap; have cp3 := LM.2.1
            have HM := hide m5
            clear hc1 hc2 hc3 hb1 hb2 hb3 LM L5 m5 hy1 hy2 hy3
            have q5 := LP5.out.cell
            have l5 := LP5.out.lt
            go_wp2
            go_quiet (fail)
            clear q5 l5 r1 r2 r3 hw
            go_wp2
            go_roundw
            case rel => exact ⟨k + 1, by go_num, by omega, YX.out.trans (Ext.drewN _ _)⟩
            case measure => simp [intOf]; omega
          · obtain rfl : k = 5 := by omega
            have kz : ¬ ((5 : Nat) : Int) < 5 := by omega
            clear X DX P5 S9 S17 S21
            have X := LX
            have DX := LDX
            have P5 := LP5
            have S9 := LS9
            have S17 := LS17
            have S21 := LS21
            clear LX LDX LP5 LS9 LS17 LS21
            clear YX
            skip
            have HI := hide (valid_two hG.out).2
            go_wp2_with fail
            refine (DX.out.iLate HN.out HI.out).mono ?_
            rintro e w25 ⟨A45, c45, rfl, dl, ln, x1⟩
            replace X := hide (X.out.trans x1)
            replace DX := hide (DX.out.ext x1)
            replace P5 := hide (P5.out.ext x1)
            replace S9 := hide (S9.out.ext x1)
            replace S17 := hide (S17.out.ext x1)
            replace S21 := hide (S21.out.ext x1)
            clear x1
            have DL := hide dl
            have LN := hide ln
            clear dl ln
            go_wp2_with fail
            refine (DX.out.sLate HN.out HI.out).mono ?_
            rintro e w26 ⟨A47, c47, rfl, dl, ln, x1⟩
            replace X := hide (X.out.trans x1)
            replace DX := hide (DX.out.ext x1)
            replace P5 := hide (P5.out.ext x1)
            replace S9 := hide (S9.out.ext x1)
            replace S17 := hide (S17.out.ext x1)
            replace S21 := hide (S21.out.ext x1)
            replace DL := hide (DL.out.ext x1)
            clear x1
            have DM := hide dl
            clear dl ln
            go_wp2_with fail
            refine (DL.out.same DM.out LN.out).mono ?_
            rintro e w27 ⟨rfl, x1⟩
            replace X := hide (X.out.trans x1)
            replace DX := hide (DX.out.ext x1)
            replace P5 := hide (P5.out.ext x1)
            replace S9 := hide (S9.out.ext x1)
            replace S17 := hide (S17.out.ext x1)
            replace S21 := hide (S21.out.ext x1)
            replace DL := hide (DL.out.ext x1)
            replace DM := hide (DM.out.ext x1)
            clear x1
            clear DM
            have OI := hide (DL.out.iRule LN.out 8)
            rw [late_holds hG.out] at OI
            have qP5 := P5.out.cell
            have lP5 := P5.out.lt
            go_wp2_with fail
            clear qP5 lP5
            refine (OI.out).mono ?_
            rintro e w28 ⟨rfl, x1⟩
            replace X := hide (X.out.trans x1)
            replace DX := hide (DX.out.ext x1)
            replace P5 := hide (P5.out.ext x1)
            replace S9 := hide (S9.out.ext x1)
            replace S17 := hide (S17.out.ext x1)
            replace S21 := hide (S21.out.ext x1)
            replace DL := hide (DL.out.ext x1)
            clear x1
            clear OI
            have CS := hide (cnt_sum hG.out)
            have CM := hide (cnt_small hG.out HL.out)
            have Q1 := hide (l.qSum_m A17 5 c17 _ _ w28 S17.out.sl (by omega) CM.out)
            obtain ⟨SM, hSM⟩ : ∃ z, Hid ((countR d xs).sum = z) := ⟨_, rfl⟩
            rw [hSM.out] at Q1 CS
            have hle : SM ≤ (n : Int) := by have := CS.out; have := HN.out; omega
            have hp : Hid (PB = decide (n7 = 0)) := by show _ = _; rw [← hPB.out, prog_yes hG.out, ← E7.out]
            have cpn := DX.out.lr.1
            have cpm := DX.out.lr.2.1
            rw [HN.out] at cpn
            by_cases h7 : n7 = 0
            · obtain rfl : PB = true := by rw [hp.out, h7]; rfl
              subst h7
              clear hp hPB
              go_wp2_with fail
              refine Q1.out.mono ?_
              rintro e wq ⟨rfl, rfl⟩
              go_wp2
              go_ret
              exact ⟨rfl, X.out⟩
            · obtain rfl : PB = false := by rw [hp.out]; simp [h7]
              have z7 : ((n7 : Int) == 0) = false := by simp; omega
              clear hp hPB
              go_wp2_with fail
              refine Q1.out.mono ?_
              rintro e wq ⟨rfl, rfl⟩
              go_wp2
              go_ret
              exact ⟨rfl, X.out⟩
end Go.Proofs.Ytijgndfhfggipaa
