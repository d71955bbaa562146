/- The walk of FnCalls: drawn sheets; called items, open calls, finality, dissents, changed calls. (Printed by cw.py.) -/
import Derived.Test.YtofmfagdaiphaaaGC
import Derived.Deep.DeepCutAuto
import Derived.Deep.RegionHeld3
namespace Go.Proofs.Ytofmfagdaiphaaa
open Go.RowKit Go.Sort
set_option linter.unusedVariables false

theorem Dq.items {w : World} {A A' D : Option Addr} {n c n' c' m e : Nat} {d : ShD} (h : Dq w (.agg #[.slice A n c, .slice A' n' c', .slice D m e]) d) : n = d.1.length ∧ LR kdItem w w.heap.size A c d.1 := by
  obtain ⟨A1, c1, A2, c2, A3, c3, he, h1, -, -⟩ := kSh.lr h.rd
  simp only [Value.agg.injEq, Array.mk.injEq, List.cons.injEq, Value.slice.injEq] at he
  obtain ⟨⟨rfl, rfl, rfl⟩, -⟩ := he
  exact ⟨rfl, h1⟩
theorem cmp_key {J1 J2 I3 : Bool} {n : Nat} (t1 : J1 = (J2 && decide (n = 0))) (t3 : I3 = true → J1 = true) : (J2 = false ∧ J1 = false ∧ I3 = false) ∨ (J2 = true ∧ n = 0 ∧ J1 = true ∧ I3 = true) ∨ (J2 = true ∧ n = 0 ∧ J1 = true ∧ I3 = false) ∨ (J2 = true ∧ n ≠ 0 ∧ J1 = false ∧ I3 = false) := by
  subst t1
  cases J2
  · refine .inl ⟨rfl, rfl, ?_⟩
    cases I3
    · rfl
    · exact absurd (t3 rfl) (by simp)
  · by_cases q : n = 0
    · cases I3
      · exact .inr (.inr (.inl ⟨rfl, q, by rw [decide_eq_true q]; rfl, rfl⟩))
      · exact .inr (.inl ⟨rfl, q, by rw [decide_eq_true q]; rfl, rfl⟩)
    · refine .inr (.inr (.inr ⟨rfl, q, by rw [decide_eq_false q]; rfl, ?_⟩))
      cases I3
      · rfl
      · have := t3 rfl
        rw [decide_eq_false q] at this
        exact absurd this (by simp)
set_option maxRecDepth 100000 in
set_option maxHeartbeats 20000000 in
theorem FnCalls_walk (a0 : Option Addr) (n0 c0 : Nat) (a1 : Option Addr) (n1 c1 : Nat) (w : World) (h0 : ArgB w a0 n0 c0) (h1 : ArgB w a1 n1 c1) :
    Calls Try.prog 4 #[.slice a0 n0 c0, .slice a1 n1 c1] w fun e w' => e = .returned (.bool true) ∧ Ext w w' := by
  have p0 := h0.cap; have p0' := h0.capm; have p1 := h1.cap; have p1' := h1.capm
  have H0 := hide h0
  have H1 := hide h1
  clear h0 h1
  have X := hide (Ext.refl w)
  have BG := hide (l.big_m a0 a1 n0 c0 n1 c1 w (by omega) (by omega))
  clear p0 p0' p1 p1'
  go_enter Try.func4, Try.ntmps4
  go_wp2_with fail
  refine BG.out.mono ?_
  rintro e wz ⟨BB, rfl, hz⟩
  subst hz
  clear BG
  cases BB
  rotate_left
  · go_wp2
    go_ret
    exact ⟨rfl, X.out⟩
  go_wp2_with fail
  refine (s.DrawCalledItems_m _ _ _ _ H0.out).mono ?_
  rintro e w1 ⟨aA, an, ac, aB, am, ae, aD, aq, af, rfl, sr, x1⟩
  replace X := hide (X.out.trans x1)
  replace H1 := hide (H1.out.ext x1)
  clear x1
  obtain ⟨d, dq⟩ := dq_of sr
  have DX := hide dq
  clear sr dq H0
  obtain ⟨w2, hW⟩ : ∃ W, Hid (W = w1.alloc (.cells #[.slice aA an ac, .slice aB am ae, .slice aD aq af] 28)) := ⟨_, rfl⟩
  have xa : Ext w1 w2 := by rw [hW.out]; exact Ext.alloc _ _
  obtain ⟨gP5, hg⟩ : ∃ g, Hid (g = w1.heap.size) := ⟨_, rfl⟩
  have P5 : Hid (Blk w2 gP5 #[.slice aA an ac, .slice aB am ae, .slice aD aq af] 28) := by rw [hW.out, hg.out]; exact Blk.new rfl _ _
  replace X := hide (X.out.trans xa)
  replace H1 := hide (H1.out.ext xa)
  replace DX := hide (DX.out.ext xa)
  clear xa
  go_upto_region 4 with fail
  rw [← hW.out, ← hg.out]
  clear hW hg
  have qP5 := P5.out.cell
  have lP5 := P5.out.lt
  go_wp2_with fail
  clear qP5 lP5
  obtain ⟨D1, hD1⟩ : ∃ z, Hid ((calledF d).1 = z) := ⟨_, rfl⟩
  obtain ⟨J1, hJ1⟩ : ∃ z, Hid ((calledF d).2 = z) := ⟨_, rfl⟩
  refine (DX.out.iCalled hD1.out hJ1.out).mono ?_
  rintro e w3 ⟨bA, bn, bc, rfl, dq, x1⟩
  replace X := hide (X.out.trans x1)
  replace H1 := hide (H1.out.ext x1)
  replace DX := hide (DX.out.ext x1)
  replace P5 := hide (P5.out.ext x1)
  clear x1
  have T6 := hide dq
  clear dq
  have qP5 := P5.out.cell
  have lP5 := P5.out.lt
  go_wp2_with fail
  clear qP5 lP5
  refine (DX.out.sCalled hD1.out hJ1.out).mono ?_
  rintro e w4 ⟨fA, fn, fc, rfl, dq, x1⟩
  replace X := hide (X.out.trans x1)
  replace H1 := hide (H1.out.ext x1)
  replace DX := hide (DX.out.ext x1)
  replace P5 := hide (P5.out.ext x1)
  replace T6 := hide (T6.out.ext x1)
  clear x1
  have T8 := hide dq
  clear dq
  have qP5 := P5.out.cell
  have lP5 := P5.out.lt
  go_wp2_with fail
  clear qP5 lP5
  obtain ⟨D2, hD2⟩ : ∃ z, Hid ((openCallsF d).1 = z) := ⟨_, rfl⟩
  obtain ⟨J2, hJ2⟩ : ∃ z, Hid ((openCallsF d).2 = z) := ⟨_, rfl⟩
  refine (DX.out.iOpens hD2.out hJ2.out).mono ?_
  rintro e w5 ⟨gA, gn, gc, rfl, dq, x1⟩
  replace X := hide (X.out.trans x1)
  replace H1 := hide (H1.out.ext x1)
  replace DX := hide (DX.out.ext x1)
  replace P5 := hide (P5.out.ext x1)
  replace T6 := hide (T6.out.ext x1)
  replace T8 := hide (T8.out.ext x1)
  clear x1
  have L10 := hide dq
  clear dq
  have qP5 := P5.out.cell
  have lP5 := P5.out.lt
  go_wp2_with fail
  clear qP5 lP5
  refine (DX.out.sOpens hD2.out hJ2.out).mono ?_
  rintro e w6 ⟨hA, hn, hc, rfl, dq, x1⟩
  replace X := hide (X.out.trans x1)
  replace H1 := hide (H1.out.ext x1)
  replace DX := hide (DX.out.ext x1)
  replace P5 := hide (P5.out.ext x1)
  replace T6 := hide (T6.out.ext x1)
  replace T8 := hide (T8.out.ext x1)
  replace L10 := hide (L10.out.ext x1)
  clear x1
  have L12 := hide dq
  clear dq
  have qP5 := P5.out.cell
  have lP5 := P5.out.lt
  go_wp2_with fail
  clear qP5 lP5
  obtain ⟨I3, hI3⟩ : ∃ z, Hid ((finalF d).1 = z) := ⟨_, rfl⟩
  obtain ⟨J3, hJ3⟩ : ∃ z, Hid ((finalF d).2 = z) := ⟨_, rfl⟩
  refine (DX.out.iFinal hI3.out hJ3.out).mono ?_
  rintro e w7 ⟨rfl, x1⟩
  replace X := hide (X.out.trans x1)
  replace H1 := hide (H1.out.ext x1)
  replace DX := hide (DX.out.ext x1)
  replace P5 := hide (P5.out.ext x1)
  replace T6 := hide (T6.out.ext x1)
  replace T8 := hide (T8.out.ext x1)
  replace L10 := hide (L10.out.ext x1)
  replace L12 := hide (L12.out.ext x1)
  clear x1
  have qP5 := P5.out.cell
  have lP5 := P5.out.lt
  go_wp2_with fail
  clear qP5 lP5
  refine (DX.out.sFinal hI3.out hJ3.out).mono ?_
  rintro e w8 ⟨rfl, x1⟩
  replace X := hide (X.out.trans x1)
  replace H1 := hide (H1.out.ext x1)
  replace DX := hide (DX.out.ext x1)
  replace P5 := hide (P5.out.ext x1)
  replace T6 := hide (T6.out.ext x1)
  replace T8 := hide (T8.out.ext x1)
  replace L10 := hide (L10.out.ext x1)
  replace L12 := hide (L12.out.ext x1)
  clear x1
  have qP5 := P5.out.cell
  have lP5 := P5.out.lt
  go_wp2_with fail
  clear qP5 lP5
  obtain ⟨D4, hD4⟩ : ∃ z, Hid ((dissF d).1 = z) := ⟨_, rfl⟩
  obtain ⟨J4, hJ4⟩ : ∃ z, Hid ((dissF d).2 = z) := ⟨_, rfl⟩
  refine (DX.out.iDiss hD4.out hJ4.out).mono ?_
  rintro e w9 ⟨iA, inn, ic, rfl, dq, x1⟩
  replace X := hide (X.out.trans x1)
  replace H1 := hide (H1.out.ext x1)
  replace DX := hide (DX.out.ext x1)
  replace P5 := hide (P5.out.ext x1)
  replace T6 := hide (T6.out.ext x1)
  replace T8 := hide (T8.out.ext x1)
  replace L10 := hide (L10.out.ext x1)
  replace L12 := hide (L12.out.ext x1)
  clear x1
  have I18 := hide dq
  clear dq
  have qP5 := P5.out.cell
  have lP5 := P5.out.lt
  go_wp2_with fail
  clear qP5 lP5
  refine (DX.out.sDiss hD4.out hJ4.out).mono ?_
  rintro e w10 ⟨jA, jn, jc, rfl, dq, x1⟩
  replace X := hide (X.out.trans x1)
  replace H1 := hide (H1.out.ext x1)
  replace DX := hide (DX.out.ext x1)
  replace P5 := hide (P5.out.ext x1)
  replace T6 := hide (T6.out.ext x1)
  replace T8 := hide (T8.out.ext x1)
  replace L10 := hide (L10.out.ext x1)
  replace L12 := hide (L12.out.ext x1)
  replace I18 := hide (I18.out.ext x1)
  clear x1
  have I20 := hide dq
  clear dq
  go_upto_region 12 with fail
  go_cut [153] from 90 to 153 (fun s153 wx => s153 = .bool false ∧ Ext w10 wx)
  case first =>
    skip
    have t1 := called_two d
    have t2 := open_two d
    rw [hJ1.out, ← t2, hJ2.out, hD2.out] at t1
    have t3 : I3 = true → J1 = true := fun q => by rw [← hJ1.out]; exact final_called (by rw [hI3.out]; exact q)
    rw [hJ2.out] at t2
    have gl := L12.out.lr.1
    have CT := hide (fun (wq : World) (xq : Ext w10 wq) => (T6.out.ext xq).same (T8.out.ext xq))
    have CL := hide (fun (wq : World) (xq : Ext w10 wq) => (L10.out.ext xq).same (L12.out.ext xq))
    have CI := hide (fun (wq : World) (xq : Ext w10 wq) => (I18.out.ext xq).same (I20.out.ext xq))
    have CS := hide (fun (wq : World) (xq : Ext w10 wq) => (DX.out.ext xq).iIs)
    rw [← t2] at CS
    clear t2
    rw [← gl] at t1
    clear gl
    have PB := P5
    clear T6 T8 L10 L12 I18 I20 DX H1 X hD1 hJ1 hD2 hJ2 hI3 hJ3 hD4 hJ4
    have k3 : (J3 != J3) = false := by simp
    have k4 : (J4 != J4) = false := by simp
    have key := cmp_key t1 t3
    clear t1 t3
    rcases key with ⟨rfl, rfl, rfl⟩ | ⟨rfl, rfl, rfl, rfl⟩ | ⟨rfl, rfl, rfl, rfl⟩ | ⟨rfl, hz, rfl, rfl⟩
    · skip
      have qP5 := P5.out.cell; have lP5 := P5.out.lt
      go_wp2_with fail
      refine (CT.out _ (Ext.refl _)).mono ?_
      rintro e wa ⟨rfl, x1⟩
      have XA := hide x1
      clear x1
      go_wp2_with fail
      refine (CL.out _ XA.out).mono ?_
      rintro e wb ⟨rfl, x1⟩
      have XB := hide (XA.out.trans x1)
      clear x1
      go_wp2_with fail
      refine (CI.out _ XB.out).mono ?_
      rintro e wd ⟨rfl, x1⟩
      have XC := hide (XB.out.trans x1)
      clear x1
      clear qP5 lP5
      have qP5 := (P5.out.ext XC.out).cell; have lP5 := (P5.out.ext XC.out).lt
      go_wp2_with fail
      refine (CS.out _ XC.out).mono ?_
      rintro e we ⟨rfl, x1⟩
      have XD := hide (XC.out.trans x1)
      clear x1
      go_wp2
      go_meet
      exact ⟨rfl, XD.out⟩
    · skip
      have qP5 := P5.out.cell; have lP5 := P5.out.lt
      go_wp2_with fail
      refine (CT.out _ (Ext.refl _)).mono ?_
      rintro e wa ⟨rfl, x1⟩
      have XA := hide x1
      clear x1
      go_wp2_with fail
      refine (CL.out _ XA.out).mono ?_
      rintro e wb ⟨rfl, x1⟩
      have XB := hide (XA.out.trans x1)
      clear x1
      go_wp2_with fail
      refine (CI.out _ XB.out).mono ?_
      rintro e wd ⟨rfl, x1⟩
      have XC := hide (XB.out.trans x1)
      clear x1
      clear qP5 lP5
      have qP5 := (P5.out.ext XC.out).cell; have lP5 := (P5.out.ext XC.out).lt
      go_wp2_with fail
      refine (CS.out _ XC.out).mono ?_
      rintro e we ⟨rfl, x1⟩
      have XD := hide (XC.out.trans x1)
      clear x1
      go_wp2
      go_meet
      exact ⟨rfl, XD.out⟩
    · skip
      have qP5 := P5.out.cell; have lP5 := P5.out.lt
      go_wp2_with fail
      refine (CT.out _ (Ext.refl _)).mono ?_
      rintro e wa ⟨rfl, x1⟩
      have XA := hide x1
      clear x1
      go_wp2_with fail
      refine (CL.out _ XA.out).mono ?_
      rintro e wb ⟨rfl, x1⟩
      have XB := hide (XA.out.trans x1)
      clear x1
      go_wp2_with fail
      refine (CI.out _ XB.out).mono ?_
      rintro e wd ⟨rfl, x1⟩
      have XC := hide (XB.out.trans x1)
      clear x1
      clear qP5 lP5
      have qP5 := (P5.out.ext XC.out).cell; have lP5 := (P5.out.ext XC.out).lt
      go_wp2_with fail
      refine (CS.out _ XC.out).mono ?_
      rintro e we ⟨rfl, x1⟩
      have XD := hide (XC.out.trans x1)
      clear x1
      go_wp2
      go_meet
      exact ⟨rfl, XD.out⟩
    · skip
      have hgz2 : (hn : Int) ≠ 0 := by omega
      have hgz : ((hn : Int) == 0) = false := by simpa using hgz2
      have qP5 := P5.out.cell; have lP5 := P5.out.lt
      go_wp2_with fail
      refine (CT.out _ (Ext.refl _)).mono ?_
      rintro e wa ⟨rfl, x1⟩
      have XA := hide x1
      clear x1
      go_wp2_with fail
      refine (CL.out _ XA.out).mono ?_
      rintro e wb ⟨rfl, x1⟩
      have XB := hide (XA.out.trans x1)
      clear x1
      go_wp2_with fail
      refine (CI.out _ XB.out).mono ?_
      rintro e wd ⟨rfl, x1⟩
      have XC := hide (XB.out.trans x1)
      clear x1
      clear qP5 lP5
      have qP5 := (P5.out.ext XC.out).cell; have lP5 := (P5.out.ext XC.out).lt
      go_wp2_with fail
      refine (CS.out _ XC.out).mono ?_
      rintro e we ⟨rfl, x1⟩
      have XD := hide (XC.out.trans x1)
      clear x1
      go_wp2
      go_meet
      exact ⟨rfl, XD.out⟩
  case rest =>
    obtain ⟨rfl, xc⟩ := hcut
    replace X := hide (X.out.trans xc)
    replace H1 := hide (H1.out.ext xc)
    replace DX := hide (DX.out.ext xc)
    replace P5 := hide (P5.out.ext xc)
    replace T6 := hide (T6.out.ext xc)
    replace T8 := hide (T8.out.ext xc)
    replace L10 := hide (L10.out.ext xc)
    replace L12 := hide (L12.out.ext xc)
    replace I18 := hide (I18.out.ext xc)
    replace I20 := hide (I20.out.ext xc)
    clear xc
    clear T6 L10 L12 I18 I20
    clear hI3 hJ3 hD4 hJ4 hD2 hJ2
    go_upto_if 154 with fail
    go_cut [] (fun wx => Ext wc wx)
    case first =>
      cases J1
      · go_wp2
        go_meet
        exact Ext.refl _
      · obtain ⟨hs, e1, i1, i2, sm, calls⟩ := called_law hJ1.out
        rw [hD1.out] at e1
        rw [← e1] at i1 sm calls
        have CA := hide calls
        obtain ⟨q1, l8⟩ := T8.out.lr
        obtain ⟨q2, lI⟩ := DX.out.items
        have SC := hide (fun (wq : World) (xq : Ext wc wq) => i.SameCalls_m wq fA aA fc ac D1 d.1 ((l8.ext xq (Nat.le_refl _)).more xq.size) ((lI.ext xq (Nat.le_refl _)).more xq.size) T8.out.ok (by have := itemsB_wt i2; omega) i1 i2 sm)
        rw [← q1, ← q2] at SC
        have Q1 := hide q1
        have LL := hide l8
        have i14 := (itemsB_wt i1).1
        rw [← q1] at i14
        clear calls q1 q2 l8 lI hs e1 i1 i2 sm
        have qP5 := P5.out.cell; have lP5 := P5.out.lt
        go_wp2_with fail
        refine (SC.out _ (Ext.refl _)).mono ?_
        rintro e wa ⟨rfl, x1⟩
        have XA := hide x1
        clear x1 qP5 lP5 SC
        go_wp2_with fail
        go_loopw [170] (fun s170 wr => ∃ k : Nat, s170 = .int .i64 k ∧ k ≤ fn ∧ Ext wc wr) (fun s170 _ => fn - (intOf s170).toNat)
        case atStart => exact ⟨0, by go_num, Nat.zero_le _, XA.out⟩
        case round =>
          clear XA
          obtain ⟨k, rfl, hk, xr⟩ := hrel
          have XR := hide xr
          clear xr
          by_cases hkt : k < fn
          · obtain ⟨x, hx⟩ : ∃ x, Hid (D1[k]? = some x) := get_ex D1 k (by have := Q1.out; omega)
            have LK := hide ((LL.out.ext XR.out (Nat.le_refl _)).more XR.out.size)
            obtain ⟨xb, xo, C1, e1, C2, e2, hfA, hxb, i0, i1, i2, -, lm⟩ := LK.out.item k x hx.out
            have LM := hide lm
            clear lm
            obtain ⟨mm, hmm⟩ : ∃ m, Hid (x.2.1.length = m) := ⟨_, rfl⟩
            obtain ⟨m1, hm1⟩ : ∃ m, Hid (x.1.length = m) := ⟨_, rfl⟩
            rw [hmm.out] at i1
            rw [hm1.out] at i0
            obtain ⟨fq, hfq⟩ : ∃ b : Bool, Hid (x.2.2 = b) := ⟨_, rfl⟩
            rw [hfq.out] at i2
            have cax := CA.out k x hx.out
            rw [hmm.out] at cax
            have CX := hide cax.2
            clear cax
            have mcap := LM.out.1; have mcm := LM.out.2.1
            rw [hmm.out] at mcap
            have lcap := LL.out.1; have lcm := LL.out.2.1
            rw [← Q1.out] at lcap
            have kz : (k : Int) < (fn : Int) := by omega
            have iks : InR (k : Int) := by unfold InR; omega
            obtain ⟨wi, hwi⟩ : ∃ wi, Hid (wi = wr.alloc (.cells #[.slice C1 m1 e1, .slice C2 mm e2, .bool fq] 50)) := ⟨_, rfl⟩
            obtain ⟨bi, hbi⟩ : ∃ bi, Hid (bi = wr.heap.size) := ⟨_, rfl⟩
            have xi : Ext wr wi := by rw [hwi.out]; exact Ext.alloc _ _
            have BI : Hid (Blk wi bi #[.slice C1 m1 e1, .slice C2 mm e2, .bool fq] 50) := by rw [hwi.out, hbi.out]; exact Blk.new rfl _ _
            have XI : Hid (Ext wc wi) := XR.out.trans xi
            have LN := hide (LM.out.ext xi (Nat.le_refl _))
            clear LM xi
            subst hfA
            go_upto_region 21 with fail
            rw [← hwi.out, ← hbi.out]
            have XW := hide (show Ext wr wi by rw [hwi.out]; exact Ext.alloc _ _)
            clear hwi hbi i0 i1 i2
            have qi := BI.out.cell; have li := BI.out.lt
            go_wp2_with fail
            clear qi li
            go_loopw [178] (fun s178 wv => ∃ j : Nat, s178 = .int .i64 j ∧ j ≤ mm ∧ Ext wi wv) (fun s178 _ => mm - (intOf s178).toNat)
            case atStart => exact ⟨0, by go_num, Nat.zero_le _, Ext.refl _⟩
            case round =>
              obtain ⟨j, rfl, hj, xj⟩ := hrel
              have XJ := hide xj
              clear xj
              skip
              by_cases hjt : j < mm
              · have LJ := (LN.out.ext XJ.out (by have := XW.out.size; omega)).sl
                rw [hmm.out] at LJ
                obtain ⟨mb, mo, hC2, hmb, hmc⟩ := SlI.cells LJ (by omega)
                have hmj := hmc j hjt
                clear hmc LJ
                obtain ⟨mk, hmk⟩ : ∃ z, Hid (x.2.1.getD j 0 = z) := ⟨_, rfl⟩
                rw [hmk.out] at hmj
                have cj := CX.out j hjt
                rw [hmk.out] at cj
                have ijs : InR (j : Int) := by unfold InR; omega
                have XQ := hide (XI.out.trans XJ.out)
                have CC := hide ((DX.out.ext XQ.out).iCallO iks ijs (congrArg Prod.fst cj) (congrArg Prod.snd cj))
                clear cj
                have jz : (j : Int) < (mm : Int) := by omega
                have er : (mk != mk) = false := by simp
                subst hC2
                have qP5 := (P5.out.ext XQ.out).cell; have lP5 := (P5.out.ext XQ.out).lt
                go_wp2_with fail
                refine CC.out.mono ?_
                rintro e wb ⟨rfl, x2⟩
                have XY := hide (XJ.out.trans x2)
                clear x2 qP5 lP5
                go_wp2
                go_roundw
                case rel => exact ⟨j + 1, by go_num, by omega, XY.out⟩
                case measure => simp [intOf]; omega
              · obtain rfl : j = mm := by omega
                go_wp2
                go_roundw
                case rel => exact ⟨k + 1, by go_num, by omega, XI.out.trans XJ.out⟩
                case measure => simp [intOf]; omega
          · go_wp2
            go_meet
            exact XR.out
    case rest =>
      have xc := hcut
      replace X := hide (X.out.trans xc)
      replace H1 := hide (H1.out.ext xc)
      replace DX := hide (DX.out.ext xc)
      replace P5 := hide (P5.out.ext xc)
      replace T8 := hide (T8.out.ext xc)
      clear xc hcut
      clear T8 DX P5
      clear hD1 hJ1
      go_wp2_with fail
      refine (s.DrawCallOf_m _ _ _ _ H1.out).mono ?_
      rintro e w11 ⟨tA, tn, tc, tB, tm, te, tD, tq, tf, y1, y2, rfl, hy1, hy2, sr, x1⟩
      replace X := hide (X.out.trans x1)
      replace H1 := hide (H1.out.ext x1)
      clear x1
      obtain ⟨d2, dq⟩ := dq_of sr
      have DT := hide dq
      have Y1 := hide hy1; have Y2 := hide hy2
      clear sr dq hy1 hy2
      obtain ⟨w12, hW⟩ : ∃ W, Hid (W = w11.alloc (.cells #[.slice tA tn tc, .slice tB tm te, .slice tD tq tf] 28)) := ⟨_, rfl⟩
      have xa : Ext w11 w12 := by rw [hW.out]; exact Ext.alloc _ _
      obtain ⟨gP30, hg⟩ : ∃ g, Hid (g = w11.heap.size) := ⟨_, rfl⟩
      have P30 : Hid (Blk w12 gP30 #[.slice tA tn tc, .slice tB tm te, .slice tD tq tf] 28) := by rw [hW.out, hg.out]; exact Blk.new rfl _ _
      replace X := hide (X.out.trans xa)
      replace H1 := hide (H1.out.ext xa)
      replace DT := hide (DT.out.ext xa)
      clear xa
      go_upto_region 30 with fail
      rw [← hW.out, ← hg.out]
      clear hW hg
      have qP30 := P30.out.cell
      have lP30 := P30.out.lt
      go_wp2_with fail
      clear qP30 lP30
      obtain ⟨I5, hI5⟩ : ∃ z, Hid ((callOfF d2 y1 y2).1 = z) := ⟨_, rfl⟩
      obtain ⟨J5, hJ5⟩ : ∃ z, Hid ((callOfF d2 y1 y2).2 = z) := ⟨_, rfl⟩
      refine (DT.out.iCallO Y1.out Y2.out hI5.out hJ5.out).mono ?_
      rintro e w13 ⟨rfl, x1⟩
      replace X := hide (X.out.trans x1)
      replace H1 := hide (H1.out.ext x1)
      replace DT := hide (DT.out.ext x1)
      replace P30 := hide (P30.out.ext x1)
      clear x1
      have qP30 := P30.out.cell
      have lP30 := P30.out.lt
      go_wp2_with fail
      clear qP30 lP30
      refine (DT.out.sCallO Y1.out Y2.out hI5.out hJ5.out).mono ?_
      rintro e w14 ⟨rfl, x1⟩
      replace X := hide (X.out.trans x1)
      replace H1 := hide (H1.out.ext x1)
      replace DT := hide (DT.out.ext x1)
      replace P30 := hide (P30.out.ext x1)
      clear x1
      clear DT P30
      clear Y1 Y2 hI5 hJ5
      go_wp2_with fail
      refine (s.DrawChangedCalls_m _ _ _ _ H1.out).mono ?_
      rintro e w15 ⟨uA, un, uc, uB, um, ue, uD, uq, uf, vA, vn, vc, vB, vm, ve, vD, vq, vf, rfl, sr, sr2, x1⟩
      replace X := hide (X.out.trans x1)
      replace H1 := hide (H1.out.ext x1)
      clear x1
      obtain ⟨d3, dq⟩ := dq_of sr
      obtain ⟨d4, dr⟩ := dq_of sr2
      have DU := hide dq
      have DV := hide dr
      clear sr sr2 dq dr H1
      obtain ⟨w16, hW⟩ : ∃ W, Hid (W = (w15.alloc (.cells #[.slice uA un uc, .slice uB um ue, .slice uD uq uf] 28)).alloc (.cells #[.slice vA vn vc, .slice vB vm ve, .slice vD vq vf] 28)) := ⟨_, rfl⟩
      have xa : Ext w15 w16 := by rw [hW.out]; exact (Ext.alloc _ _).trans (Ext.alloc _ _)
      obtain ⟨gP37, hg⟩ : ∃ g, Hid (g = w15.heap.size) := ⟨_, rfl⟩
      obtain ⟨gP38, hg1⟩ : ∃ g, Hid (g = w15.heap.size + 1) := ⟨_, rfl⟩
      have P37 : Hid (Blk w16 gP37 #[.slice uA un uc, .slice uB um ue, .slice uD uq uf] 28) := by rw [hW.out, hg.out]; exact (Blk.new rfl _ _).alloc _
      have P38 : Hid (Blk w16 gP38 #[.slice vA vn vc, .slice vB vm ve, .slice vD vq vf] 28) := by rw [hW.out, hg1.out]; exact Blk.new (by simp) _ _
      replace X := hide (X.out.trans xa)
      replace DU := hide (DU.out.ext xa)
      replace DV := hide (DV.out.ext xa)
      clear xa
      go_upto_region 33 with fail
      rw [← hW.out, ← hg1.out, ← hg.out]
      clear hW hg hg1
      have qP37 := P37.out.cell
      have lP37 := P37.out.lt
      have qP38 := P38.out.cell
      have lP38 := P38.out.lt
      go_wp2_with fail
      clear qP37 lP37
      clear qP38 lP38
      obtain ⟨D6, hD6⟩ : ∃ z, Hid ((chgF d3 d4).1 = z) := ⟨_, rfl⟩
      obtain ⟨J6, hJ6⟩ : ∃ z, Hid ((chgF d3 d4).2 = z) := ⟨_, rfl⟩
      refine (DU.out.iChg DV.out hD6.out hJ6.out).mono ?_
      rintro e w17 ⟨xA, xn, xc, rfl, dq, x1⟩
      replace X := hide (X.out.trans x1)
      replace DU := hide (DU.out.ext x1)
      replace DV := hide (DV.out.ext x1)
      replace P37 := hide (P37.out.ext x1)
      replace P38 := hide (P38.out.ext x1)
      clear x1
      have L39 := hide dq
      clear dq
      have qP37 := P37.out.cell
      have lP37 := P37.out.lt
      have qP38 := P38.out.cell
      have lP38 := P38.out.lt
      go_wp2_with fail
      clear qP37 lP37
      clear qP38 lP38
      refine (DU.out.sChg DV.out hD6.out hJ6.out).mono ?_
      rintro e w18 ⟨yA, yn, yc, rfl, dq, x1⟩
      replace X := hide (X.out.trans x1)
      replace DU := hide (DU.out.ext x1)
      replace DV := hide (DV.out.ext x1)
      replace P37 := hide (P37.out.ext x1)
      replace P38 := hide (P38.out.ext x1)
      replace L39 := hide (L39.out.ext x1)
      clear x1
      have L41 := hide dq
      clear dq
      have qP37 := P37.out.cell
      have lP37 := P37.out.lt
      have qP38 := P38.out.cell
      have lP38 := P38.out.lt
      go_wp2_with fail
      clear qP37 lP37
      clear qP38 lP38
      refine (DV.out.iChg DU.out (D := D6) (J := J6) ((congrArg Prod.fst (chg_comm d3 d4)).trans hD6.out) ((congrArg Prod.snd (chg_comm d3 d4)).trans hJ6.out)).mono ?_
      rintro e w19 ⟨zA, zn, zc, rfl, dq, x1⟩
      replace X := hide (X.out.trans x1)
      replace DU := hide (DU.out.ext x1)
      replace DV := hide (DV.out.ext x1)
      replace P37 := hide (P37.out.ext x1)
      replace P38 := hide (P38.out.ext x1)
      replace L39 := hide (L39.out.ext x1)
      replace L41 := hide (L41.out.ext x1)
      clear x1
      have L43 := hide dq
      clear dq
      have k5 : (J5 == J5) = true := by simp
      have k6 : (I5 == I5) = true := by simp
      have k7 : (J6 == J6) = true := by simp
      go_wp2_with fail
      refine (L39.out.same L41.out).mono ?_
      rintro e w20 ⟨rfl, x1⟩
      replace X := hide (X.out.trans x1)
      replace DU := hide (DU.out.ext x1)
      replace DV := hide (DV.out.ext x1)
      replace P37 := hide (P37.out.ext x1)
      replace P38 := hide (P38.out.ext x1)
      replace L39 := hide (L39.out.ext x1)
      replace L41 := hide (L41.out.ext x1)
      replace L43 := hide (L43.out.ext x1)
      clear x1
      go_wp2_with fail
      refine (L43.out.same L41.out).mono ?_
      rintro e w21 ⟨rfl, x1⟩
      replace X := hide (X.out.trans x1)
      replace DU := hide (DU.out.ext x1)
      replace DV := hide (DV.out.ext x1)
      replace P37 := hide (P37.out.ext x1)
      replace P38 := hide (P38.out.ext x1)
      replace L39 := hide (L39.out.ext x1)
      replace L41 := hide (L41.out.ext x1)
      replace L43 := hide (L43.out.ext x1)
      clear x1
      go_wp2
      go_ret
      exact ⟨rfl, X.out⟩
end Go.Proofs.Ytofmfagdaiphaaa
