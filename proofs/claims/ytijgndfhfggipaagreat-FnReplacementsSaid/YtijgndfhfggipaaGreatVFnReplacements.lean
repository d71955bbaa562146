/- The walk of FnReplacements: drawn programmes; the order for late items, the best replacement, its gain and the bound. (Printed by vr.py.) -/
import Derived.Test.YtijgndfhfggipaaGreatGX
import Derived.Deep.DeepCutAuto
namespace Go.Proofs.YtijgndfhfggipaaGreat
open Go.RowKit Go.Sort
set_option linter.unusedVariables false

set_option maxRecDepth 100000 in
set_option maxHeartbeats 20000000 in
theorem FnReplacements_walk (a0 : Option Addr) (n0 c0 : Nat) (a1 : Option Addr) (n1 c1 : Nat) (w : World) (h0 : ArgB w a0 n0 c0) (h1 : ArgB w a1 n1 c1) :
    Calls Tryz.prog 3 #[.slice a0 n0 c0, .slice a1 n1 c1] w fun e w' => e = .returned (.bool true) ∧ Ext w w' := by
  have p0 := h0.cap; have p0' := h0.capm; have p1 := h1.cap; have p1' := h1.capm
  have H0 := hide h0
  have H1 := hide h1
  clear h0 h1
  obtain ⟨sm, hsm⟩ : ∃ sm, Hid (IntKind.i64.wrap ((n0 : Int) + n1) = sm) := ⟨_, rfl⟩
  have X := hide (Ext.refl w)
  go_enter Tryz.func3, Tryz.ntmps3
  go_wp2_with fail
  · go_ret
    exact ⟨rfl, X.out⟩
  clear hsm p0 p0' p1 p1'
  refine (s.DrawOrderForLate_m w _ _ _ H0.out).mono ?_
  rintro e w1 ⟨a1, am1, ad1, a2, am2, ad2, ar, ab, ak, af, A, n, c, rfl, hc, hl, x1⟩
  replace X := hide (X.out.trans x1)
  replace H1 := hide (H1.out.ext x1)
  clear x1
  obtain ⟨d, xs, dw, hn⟩ := dw_of hc hl
  have DX := hide dw
  have HN := hide hn
  clear hc hl dw hn H0
  obtain ⟨w2, hW⟩ : ∃ W, Hid (W = w1.alloc (.cells #[.slice a1 am1 ad1, .slice a2 am2 ad2, .int .i64 ar, .int .i64 ab, .int .i64 ak, .int .i64 af] 26)) := ⟨_, rfl⟩
  have xa : Ext w1 w2 := by rw [hW.out]; exact Ext.alloc _ _
  obtain ⟨gP5, hg⟩ : ∃ g, Hid (g = w1.heap.size) := ⟨_, rfl⟩
  have P5 : Hid (Blk w2 gP5 #[.slice a1 am1 ad1, .slice a2 am2 ad2, .int .i64 ar, .int .i64 ab, .int .i64 ak, .int .i64 af] 26) := by rw [hW.out, hg.out]; exact Blk.new rfl _ _
  replace X := hide (X.out.trans xa)
  replace H1 := hide (H1.out.ext xa)
  replace DX := hide (DX.out.ext xa)
  clear xa
  go_wp2_with fail
  rw [← hW.out, ← hg.out]
  clear hW hg
  as_aux_lemma =>
    obtain ⟨G, hG⟩ : ∃ G, Hid ((orderF d xs).2 = G) := ⟨_, rfl⟩
    obtain ⟨ys, hys⟩ : ∃ ys, Hid ((orderF d xs).1 = ys) := ⟨_, rfl⟩
    have OI := hide (DX.out.iOrd HN.out)
    rw [hG.out, hys.out] at OI
    refine (OI.out).mono ?_
    rintro e w3 ⟨A7, n7, c7, rfl, hl7, dy7, x1⟩
    replace X := hide (X.out.trans x1)
    replace H1 := hide (H1.out.ext x1)
    replace DX := hide (DX.out.ext x1)
    replace P5 := hide (P5.out.ext x1)
    clear x1
    have DY7 := hide dy7
    have HL7 := hide hl7
    clear dy7 hl7 OI
    have qP5 := P5.out.cell
    have lP5 := P5.out.lt
    go_wp2_with fail
    clear qP5 lP5
    have OI := hide (DX.out.sOrd HN.out)
    rw [hG.out, hys.out] at OI
    refine (OI.out).mono ?_
    rintro e w4 ⟨A9, n9, c9, rfl, hl9, dy9, x1⟩
    replace X := hide (X.out.trans x1)
    replace H1 := hide (H1.out.ext x1)
    replace DX := hide (DX.out.ext x1)
    replace P5 := hide (P5.out.ext x1)
    replace DY7 := hide (DY7.out.ext x1)
    clear x1
    obtain rfl : n7 = n9 := by rw [← HL7.out, hl9]
    have DY9 := hide dy9
    clear dy9 hl9 OI
    have qP5 := P5.out.cell
    have lP5 := P5.out.lt
    go_wp2_with fail
    clear qP5 lP5
    obtain ⟨b1, hb1⟩ : ∃ b, Hid ((bestReplF d xs).1 = b) := ⟨_, rfl⟩
    obtain ⟨b2, hb2⟩ : ∃ b, Hid ((bestReplF d xs).2.1 = b) := ⟨_, rfl⟩
    obtain ⟨b3, hb3⟩ : ∃ b, Hid ((bestReplF d xs).2.2.1 = b) := ⟨_, rfl⟩
    obtain ⟨b4, hb4⟩ : ∃ b, Hid ((bestReplF d xs).2.2.2 = b) := ⟨_, rfl⟩
    have OI := hide (DX.out.iBest HN.out)
    rw [hb1.out, hb2.out, hb3.out, hb4.out] at OI
    refine (OI.out).mono ?_
    rintro e w5 ⟨rfl, x1⟩
    replace X := hide (X.out.trans x1)
    replace H1 := hide (H1.out.ext x1)
    replace DX := hide (DX.out.ext x1)
    replace P5 := hide (P5.out.ext x1)
    replace DY7 := hide (DY7.out.ext x1)
    replace DY9 := hide (DY9.out.ext x1)
    clear x1
    clear OI
    have qP5 := P5.out.cell
    have lP5 := P5.out.lt
    go_wp2_with fail
    clear qP5 lP5
    have OI := hide (DX.out.sBest HN.out)
    rw [hb1.out, hb2.out, hb3.out, hb4.out] at OI
    refine (OI.out).mono ?_
    rintro e w6 ⟨rfl, x1⟩
    replace X := hide (X.out.trans x1)
    replace H1 := hide (H1.out.ext x1)
    replace DX := hide (DX.out.ext x1)
    replace P5 := hide (P5.out.ext x1)
    replace DY7 := hide (DY7.out.ext x1)
    replace DY9 := hide (DY9.out.ext x1)
    clear x1
    clear OI
    go_wp2_with fail
    refine (s.DrawReplaceGain_m _ _ _ _ H1.out).mono ?_
    rintro e w7 ⟨z1, zm1, zd1, z2, zm2, zd2, zr, zb, zk, zf, A2, n2, c2, kz, nm, rfl, hnm, hkz, hc, hl, x1⟩
    replace X := hide (X.out.trans x1)
    replace H1 := hide (H1.out.ext x1)
    replace DX := hide (DX.out.ext x1)
    replace P5 := hide (P5.out.ext x1)
    replace DY7 := hide (DY7.out.ext x1)
    replace DY9 := hide (DY9.out.ext x1)
    clear x1
    obtain ⟨d2, xs2, dw2, hn2⟩ := dw_of hc hl
    have DZ := hide dw2
    have HN2 := hide hn2
    have HNM := hide hnm
    have HKZ := hide hkz
    clear hc hl dw2 hn2 hnm hkz
    clear H1
    obtain ⟨w8, hW⟩ : ∃ W, Hid (W = w7.alloc (.cells #[.slice z1 zm1 zd1, .slice z2 zm2 zd2, .int .i64 zr, .int .i64 zb, .int .i64 zk, .int .i64 zf] 26)) := ⟨_, rfl⟩
    have xa : Ext w7 w8 := by rw [hW.out]; exact Ext.alloc _ _
    obtain ⟨gP19, hg⟩ : ∃ g, Hid (g = w7.heap.size) := ⟨_, rfl⟩
    have P19 : Hid (Blk w8 gP19 #[.slice z1 zm1 zd1, .slice z2 zm2 zd2, .int .i64 zr, .int .i64 zb, .int .i64 zk, .int .i64 zf] 26) := by rw [hW.out, hg.out]; exact Blk.new rfl _ _
    replace X := hide (X.out.trans xa)
    replace DX := hide (DX.out.ext xa)
    replace P5 := hide (P5.out.ext xa)
    replace DY7 := hide (DY7.out.ext xa)
    replace DY9 := hide (DY9.out.ext xa)
    replace DZ := hide (DZ.out.ext xa)
    clear xa
    go_wp2_with fail
    rw [← hW.out, ← hg.out]
    clear hW hg
    as_aux_lemma =>
      obtain ⟨o1, ho1⟩ : ∃ b, Hid ((gainF d2 xs2 kz nm).1 = b) := ⟨_, rfl⟩
      obtain ⟨o2, ho2⟩ : ∃ b, Hid ((gainF d2 xs2 kz nm).2 = b) := ⟨_, rfl⟩
      have OI := hide (DZ.out.iGain HN2.out kz nm HKZ.out HNM.out)
      rw [ho1.out, ho2.out] at OI
      refine (OI.out).mono ?_
      rintro e w9 ⟨rfl, x1⟩
      replace X := hide (X.out.trans x1)
      replace DX := hide (DX.out.ext x1)
      replace P5 := hide (P5.out.ext x1)
      replace DY7 := hide (DY7.out.ext x1)
      replace DY9 := hide (DY9.out.ext x1)
      replace DZ := hide (DZ.out.ext x1)
      replace P19 := hide (P19.out.ext x1)
      clear x1
      clear OI
      have qP19 := P19.out.cell
      have lP19 := P19.out.lt
      go_wp2_with fail
      clear qP19 lP19
      have OI := hide (DZ.out.sGain HN2.out kz nm HKZ.out HNM.out)
      rw [ho1.out, ho2.out] at OI
      refine (OI.out).mono ?_
      rintro e w10 ⟨rfl, x1⟩
      replace X := hide (X.out.trans x1)
      replace DX := hide (DX.out.ext x1)
      replace P5 := hide (P5.out.ext x1)
      replace DY7 := hide (DY7.out.ext x1)
      replace DY9 := hide (DY9.out.ext x1)
      replace DZ := hide (DZ.out.ext x1)
      replace P19 := hide (P19.out.ext x1)
      clear x1
      clear OI
      go_upto_region 11 with fail
      have QI := hide (DY7.out.same DY9.out HL7.out)
      have CB : Hid (b4 = true → G = true ∧ 1 ≤ b3) := fun h => by
        have hh : (bestReplF d xs).2.2.2 = true := by rw [hb4.out]; exact h
        have h1 := best_is hh
        rw [hb3.out] at h1
        exact ⟨by rw [← hG.out]; exact order_of h1.1, h1.2.1⟩
      go_cut [152] (fun s152 wx => s152 = .bool false ∧ Ext w10 wx)
      case first =>
        as_aux_lemma =>
        have e1 : (b1 != b1) = false := by simp
        have e2 : (b2 != b2) = false := by simp
        have e3 : (b3 != b3) = false := by simp
        have f1 : (o1 != o1) = false := by simp
        have f2 : (o2 != o2) = false := by simp
        have f4 : (b4 != b4) = false := by simp
        have f5 : (G != G) = false := by simp
        cases b4
        · clear CB
          go_wp2_with (go_at_call 12; refine QI.out.mono ?_; rintro e wy ⟨rfl, xy⟩)
          go_meet
          exact ⟨rfl, xy⟩
        · obtain ⟨rfl, c3⟩ := CB.out rfl
          have c4 : ¬ b3 < 1 := by omega
          clear CB
          go_wp2_with (go_at_call 12; refine QI.out.mono ?_; rintro e wy ⟨rfl, xy⟩)
          go_meet
          exact ⟨by rw [decide_eq_false (show ¬ b3 < 1 by omega)], xy⟩
      case rest =>
        obtain ⟨rfl, xc⟩ := hcut
        replace X := hide (X.out.trans xc)
        replace DX := hide (DX.out.ext xc)
        replace P5 := hide (P5.out.ext xc)
        replace DY7 := hide (DY7.out.ext xc)
        replace DY9 := hide (DY9.out.ext xc)
        replace DZ := hide (DZ.out.ext xc)
        replace P19 := hide (P19.out.ext xc)
        clear xc QI
        clear DY9
        as_aux_lemma =>
          go_upto_region 13 with fail
          go_cut [157] (fun s157 wx => ∃ Q, s157 = .bool Q ∧ (Q = true → o2 = true ∧ 0 < o1) ∧ Ext wc wx)
          case first =>
            cases o2
            · go_wp2
              go_meet
              exact ⟨false, rfl, by simp, Ext.refl _⟩
            · by_cases ho : 0 < o1
              · go_wp2
                go_meet
                exact ⟨true, rfl, fun _ => ⟨rfl, ho⟩, Ext.refl _⟩
              · go_wp2
                go_meet
                exact ⟨false, rfl, by simp, Ext.refl _⟩
          case rest =>
            obtain ⟨Q, rfl, hQ, xc⟩ := hcut
            replace X := hide (X.out.trans xc)
            replace DX := hide (DX.out.ext xc)
            replace P5 := hide (P5.out.ext xc)
            replace DY7 := hide (DY7.out.ext xc)
            replace DZ := hide (DZ.out.ext xc)
            replace P19 := hide (P19.out.ext xc)
            clear xc
            go_upto_if 157 with fail
            go_cut [] (fun wx => Ext wc wx)
            case first =>
              as_aux_lemma =>
              cases Q
              · go_wp2
                go_meet
                exact Ext.refl _
              · obtain ⟨e2, hlt⟩ := hQ rfl
                have e2h := hide e2
                clear e2
                have gb := gain_le_best (d := d2) (xs := xs2) (k := kz) (nm := nm) (g := o1) (by rw [← ho1.out, ← e2h.out, ← ho2.out]) hlt
                have OI := hide (DZ.out.iBest HN2.out)
                rw [gb.1] at OI
                obtain ⟨top, htop⟩ : ∃ t, Hid ((bestReplF d2 xs2).2.2.1 = t) := ⟨_, rfl⟩
                have hge : ¬ top < o1 := by have := gb.2; have := htop.out; omega
                rw [htop.out] at OI
                generalize (bestReplF d2 xs2).1 = t1 at *
                generalize (bestReplF d2 xs2).2.1 = t2 at *
                clear gb hlt hQ
                have q19 := P19.out.cell
                go_wp2_with fail
                refine OI.out.mono ?_
                rintro e wy ⟨rfl, xy⟩
                clear q19
                go_wp2
                go_meet
                exact xy
            case rest =>
              have xc := hcut
              clear hQ
              replace X := hide (X.out.trans xc)
              replace DX := hide (DX.out.ext xc)
              replace P5 := hide (P5.out.ext xc)
              replace DY7 := hide (DY7.out.ext xc)
              replace DZ := hide (DZ.out.ext xc)
              replace P19 := hide (P19.out.ext xc)
              clear xc hcut
              clear DZ P19 ho1 ho2 HN2 HNM HKZ
              as_aux_lemma =>
                cases G
                · go_wp2
                  go_ret
                  exact ⟨rfl, X.out⟩
                as_aux_lemma =>
                  have OY := hide (order_yes hG.out)
                  have HP := hide OY.out.1
                  have hyl : Hid (ys = orderL d xs) := by show _ = _; rw [← hys.out]; exact OY.out.2
                  have HQ : Hid (progB d ys = true) := by rw [hyl.out]; exact order_prog HP.out
                  have hN7 : Hid (n7 = n) := by show _ = _; rw [← HL7.out, hyl.out, orderL_len]; exact HN.out
                  obtain ⟨S1, hS1⟩ : ∃ z, Hid ((basesF d xs).sum = z) := ⟨_, rfl⟩
                  obtain ⟨S2, hS2⟩ : ∃ z, Hid ((basesF d ys).sum = z) := ⟨_, rfl⟩
                  obtain ⟨BD, hBD⟩ : ∃ z, Hid ((planF d n).1 = z) := ⟨_, rfl⟩
                  have g1 : ¬ S2 < S1 := by have := order_ge HP.out; rw [← hyl.out] at this; have := hS1.out; have := hS2.out; omega
                  have g2 : ¬ BD < S2 := by have := (prog_bound HQ.out).2; rw [HL7.out, hN7.out] at this; have := hBD.out; have := hS2.out; omega
                  have gS := prog_sum HP.out
                  rw [hS1.out] at gS
                  have n14 : n ≤ 14 := by have := (progB_ls HP.out).n; have := HN.out; omega
                  have OI := hide (DX.out.iPB HN.out)
                  rw [prog_base HP.out, hS1.out] at OI
                  clear OY
                  have qP5 := P5.out.cell
                  have lP5 := P5.out.lt
                  go_wp2_with fail
                  clear qP5 lP5
                  refine (OI.out).mono ?_
                  rintro e w11 ⟨rfl, x1⟩
                  replace X := hide (X.out.trans x1)
                  replace DX := hide (DX.out.ext x1)
                  replace P5 := hide (P5.out.ext x1)
                  replace DY7 := hide (DY7.out.ext x1)
                  clear x1
                  clear OI
                  skip
                  have OI := hide (DY7.out.iPB HL7.out)
                  rw [prog_base HQ.out, hS2.out] at OI
                  have qP5 := P5.out.cell
                  have lP5 := P5.out.lt
                  go_wp2_with fail
                  clear qP5 lP5
                  refine (OI.out).mono ?_
                  rintro e w12 ⟨rfl, x1⟩
                  replace X := hide (X.out.trans x1)
                  replace DX := hide (DX.out.ext x1)
                  replace P5 := hide (P5.out.ext x1)
                  replace DY7 := hide (DY7.out.ext x1)
                  clear x1
                  clear OI
                  have OI := hide (DY7.out.iProg HL7.out)
                  rw [prog_law HQ.out] at OI
                  have qP5 := P5.out.cell
                  have lP5 := P5.out.lt
                  go_wp2_with fail
                  clear qP5 lP5
                  refine (OI.out).mono ?_
                  rintro e w13 ⟨rfl, x1⟩
                  replace X := hide (X.out.trans x1)
                  replace DX := hide (DX.out.ext x1)
                  replace P5 := hide (P5.out.ext x1)
                  replace DY7 := hide (DY7.out.ext x1)
                  clear x1
                  clear OI
                  clear DY7 HQ
                  skip
                  have OI := hide (DX.out.iBound n (by omega))
                  have e3 : Hid ((planF d n).2 = true) := by have := (prog_bound HP.out).1; rw [HN.out] at this; exact congrArg Prod.snd this
                  rw [e3.out, hBD.out] at OI
                  clear e3
                  have qP5 := P5.out.cell
                  have lP5 := P5.out.lt
                  go_wp2_with fail
                  clear qP5 lP5
                  refine (OI.out).mono ?_
                  rintro e w14 ⟨rfl, x1⟩
                  replace X := hide (X.out.trans x1)
                  replace DX := hide (DX.out.ext x1)
                  replace P5 := hide (P5.out.ext x1)
                  clear x1
                  clear OI
                  skip
                  cases b4
                  · clear gS
                    go_wp2
                    go_ret
                    exact ⟨rfl, X.out⟩
                  as_aux_lemma =>
                    obtain ⟨kk, ii, el, e1, e2, hk, hi, hl, hg, m1, m2, mb⟩ := best_nums hb4.out
                    rw [HN.out, hBD.out, hb3.out, hS1.out] at mb
                    rw [hb3.out] at hg m1 m2
                    rw [hb1.out] at e1
                    rw [hb2.out] at e2
                    subst e1 e2
                    rw [HN.out] at hk
                    have GN := hide (fun (wq : World) (xq : Ext w14 wq) => (DX.out.ext xq).iGain HN.out kk el.1 (by unfold InR; omega) hl)
                    rw [hg] at GN
                    obtain ⟨e5, LE, -, -⟩ := kC.lr1 DX.out.rd
                    obtain ⟨be, oe, rfl, hbe, g0, -, -, -, -⟩ := LE.element ii el hi
                    have hil : ii < am1 := by rw [e5]; exact (List.getElem?_eq_some_iff.1 hi).1
                    have ci := LE.1
                    have cm := LE.2.1
                    rw [← e5] at ci
                    clear LE hg hi hl e5
                    generalize el.1 = nm1 at *
                    have hilz : (ii : Int) < (am1 : Int) := by omega
                    have mz : (b3 == b3) = true := by simp
                    have mb2 : S1 + b3 ≤ BD := mb
                    have q5 := P5.out.cell
                    have l5 := P5.out.lt
                    go_wp2_with fail
                    go_region_law (go_simp; go_at_call 10; refine (GN.out _ (by first | with_reducible exact Ext.refl _ | with_reducible exact Ext.drew _)).mono ?_; rintro e wz ⟨rfl, xz⟩; have XZ := hide (X.out.trans ((show Ext w14 _ from (by first | with_reducible exact Ext.refl _ | with_reducible exact Ext.drew _)).trans xz)); clear xz)
                    all_goals
                      clear q5 l5 g0 GN
                      go_wp2
                      go_ret
                      exact ⟨rfl, XZ.out⟩
end Go.Proofs.YtijgndfhfggipaaGreat
