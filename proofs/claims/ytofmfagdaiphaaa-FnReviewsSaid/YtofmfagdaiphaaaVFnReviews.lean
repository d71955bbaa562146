/- The walk of FnReviews: drawn sheets; a review decides its call, votes are kept, a new sheet is open everywhere. (Printed by rw.py.) -/
import Derived.Test.YtofmfagdaiphaaaJG
import Derived.Test.YtofmfagdaiphaaaJK
import Derived.Deep.DeepCutAuto
import Derived.Deep.RegionHeld3
namespace Go.Proofs.Ytofmfagdaiphaaa
open Go.RowKit Go.Sort
set_option linter.unusedVariables false

/-- Where a vote of a sheet that is read lies. -/
theorem vote_at {w : World} {A A' D : Option Addr} {n c n' c' m e : Nat} {d : ShD} {cl i k : Nat} {v : List (List Int)} {x : List Int} (h : kSm.rd w (.agg #[.slice A n c, .slice A' n' c', .slice D m e]) d) (hv : d.2.1[cl]? = some v) (hx : v[i]? = some x) (hk : k < x.length) :
    ∃ b1 o1 b2 o2 e2 b3 o3 e3, A' = some ⟨b1, o1, none⟩ ∧ n' = d.2.1.length ∧ w.cell? ⟨b1, o1 + cl, none⟩ = some (.slice (some ⟨b2, o2, none⟩) v.length e2) ∧ w.cell? ⟨b2, o2 + i, none⟩ = some (.slice (some ⟨b3, o3, none⟩) x.length e3) ∧ w.cell? ⟨b3, o3 + k, none⟩ = some (.int .i64 (x.getD k 0)) ∧ b1 < w.heap.size ∧ b2 < w.heap.size ∧ b3 < w.heap.size := by
  obtain ⟨A1, c1, A2, c2, A3, c3, he, _, h2, _⟩ := kSh.lr h
  simp only [Value.agg.injEq, Array.mk.injEq, List.cons.injEq, Value.slice.injEq, and_true] at he
  obtain ⟨-, ⟨rfl, rfl, rfl⟩, -⟩ := he
  obtain ⟨b1, o1, cs, rfl, hb1, ⟨Ak, ck, rfl, hrk⟩, hc⟩ := h2.2.2 cl v hv
  obtain ⟨b2, o2, cs2, rfl, hb2, ⟨Al, cl2, rfl, hrl⟩, hc2⟩ := hrk.2.2 i x hx
  obtain ⟨b3, o3, e3, hb3, hc3⟩ := hrl.sl.cells (by omega)
  subst e3
  have q1 : w.cell? ⟨b1, o1 + cl, none⟩ = some (.slice (some ⟨b2, o2, none⟩) v.length ck) := by
    have := hc 0 _ rfl
    rwa [show cl * kdLL.size + 0 = cl from by show cl * 1 + 0 = cl; omega] at this
  have q2 : w.cell? ⟨b2, o2 + i, none⟩ = some (.slice (some ⟨b3, o3, none⟩) x.length cl2) := by
    have := hc2 0 _ rfl
    rwa [show i * kdL.size + 0 = i from by show i * 1 + 0 = i; omega] at this
  exact ⟨b1, o1, b2, o2, ck, b3, o3, cl2, rfl, rfl, q1, q2, hc3 k hk, hb1, hb2, hb3⟩
set_option maxRecDepth 100000 in
set_option maxHeartbeats 20000000 in
theorem FnReviews_walk (a0 : Option Addr) (n0 c0 : Nat) (a1 : Option Addr) (n1 c1 : Nat) (w : World) (h0 : ArgB w a0 n0 c0) (h1 : ArgB w a1 n1 c1) :
    Calls Try.prog 3 #[.slice a0 n0 c0, .slice a1 n1 c1] w fun e w' => e = .returned (.bool true) ∧ Ext w w' := by
  have p0 := h0.cap; have p0' := h0.capm; have p1 := h1.cap; have p1' := h1.capm
  have H0 := hide h0
  have H1 := hide h1
  clear h0 h1
  have X := hide (Ext.refl w)
  have BG := hide (l.big_m a0 a1 n0 c0 n1 c1 w (by omega) (by omega))
  clear p0 p0' p1 p1'
  go_enter Try.func3, Try.ntmps3
  go_wp2_with fail
  refine BG.out.mono ?_
  rintro e wz ⟨BB, rfl, hz⟩
  subst hz
  clear BG
  cases BB
  rotate_left
  · go_wp2
    go_ret
    exact ⟨rfl, X.out⟩
  go_wp2_with fail
  have hw_ : True := trivial
  refine (s.DrawAddReview_m _ _ _ _ H0.out).mono ?_
  rintro e w1 ⟨aA, an, ac, aB, am, ae, aD, aq, af, r1, r2, r3, rfl, hr1, hr2, hr3, sr, x1⟩
  replace X := hide (X.out.trans x1)
  replace H1 := hide (H1.out.ext x1)
  clear x1
  obtain ⟨d, dq⟩ := dq_of sr
  have DX := hide dq
  have I1 := hide hr1; have I2 := hide hr2; have I3 := hide hr3
  clear sr dq hr1 hr2 hr3 H0
  obtain ⟨w2, hW⟩ : ∃ W, Hid (W = (w1.alloc (.cells #[.slice aA an ac, .slice aB am ae, .slice aD aq af] 28)).alloc (.cells #[.int .i64 r1, .int .i64 r2, .int .i64 r3] 30)) := ⟨_, rfl⟩
  have xa : Ext w1 w2 := by rw [hW.out]; exact (Ext.alloc _ _).trans (Ext.alloc _ _)
  obtain ⟨gP5, hg⟩ : ∃ g, Hid (g = w1.heap.size) := ⟨_, rfl⟩
  obtain ⟨gP6, hg1⟩ : ∃ g, Hid (g = w1.heap.size + 1) := ⟨_, rfl⟩
  have P5 : Hid (Blk w2 gP5 #[.slice aA an ac, .slice aB am ae, .slice aD aq af] 28) := by rw [hW.out, hg.out]; exact (Blk.new rfl _ _).alloc _
  have P6 : Hid (Blk w2 gP6 #[.int .i64 r1, .int .i64 r2, .int .i64 r3] 30) := by rw [hW.out, hg1.out]; exact Blk.new (by simp) _ _
  replace X := hide (X.out.trans xa)
  replace H1 := hide (H1.out.ext xa)
  replace DX := hide (DX.out.ext xa)
  clear xa
  go_upto_region 4 with fail
  rw [← hW.out, ← hg1.out, ← hg.out]
  clear hW hg hg1
  have qP5 := P5.out.cell
  have lP5 := P5.out.lt
  have qP6 := P6.out.cell
  have lP6 := P6.out.lt
  go_wp2_with fail
  clear qP5 lP5
  clear qP6 lP6
  obtain ⟨D1, hD1⟩ : ∃ z, Hid ((addRF d (r1, r2, r3)).1 = z) := ⟨_, rfl⟩
  obtain ⟨J1, hJ1⟩ : ∃ z, Hid ((addRF d (r1, r2, r3)).2 = z) := ⟨_, rfl⟩
  refine (DX.out.iAdd hD1.out hJ1.out).mono ?_
  rintro e w3 ⟨bA, bn, bc, bB, bm, be, bD, bq, bf, rfl, dq, x1⟩
  replace X := hide (X.out.trans x1)
  replace H1 := hide (H1.out.ext x1)
  replace DX := hide (DX.out.ext x1)
  replace P5 := hide (P5.out.ext x1)
  replace P6 := hide (P6.out.ext x1)
  clear x1
  have S7 := hide dq
  clear dq
  obtain ⟨w4, hW⟩ : ∃ W, Hid (W = w3.alloc (.cells #[.slice bA bn bc, .slice bB bm be, .slice bD bq bf] 28)) := ⟨_, rfl⟩
  have xa : Ext w3 w4 := by rw [hW.out]; exact Ext.alloc _ _
  obtain ⟨gP7, hg⟩ : ∃ g, Hid (g = w3.heap.size) := ⟨_, rfl⟩
  have P7 : Hid (Blk w4 gP7 #[.slice bA bn bc, .slice bB bm be, .slice bD bq bf] 28) := by rw [hW.out, hg.out]; exact Blk.new rfl _ _
  replace X := hide (X.out.trans xa)
  replace H1 := hide (H1.out.ext xa)
  replace DX := hide (DX.out.ext xa)
  replace P5 := hide (P5.out.ext xa)
  replace P6 := hide (P6.out.ext xa)
  replace S7 := hide (S7.out.ext xa)
  clear xa
  go_upto_region 5 with fail
  rw [← hW.out, ← hg.out]
  clear hW hg
  have qP5 := P5.out.cell
  have lP5 := P5.out.lt
  have qP6 := P6.out.cell
  have lP6 := P6.out.lt
  go_wp2_with fail
  clear qP5 lP5
  clear qP6 lP6
  refine (DX.out.sAdd hD1.out hJ1.out).mono ?_
  rintro e w5 ⟨cA, cn, cc, cB, cm, ce, cD, cq, cf, rfl, dq, x1⟩
  replace X := hide (X.out.trans x1)
  replace H1 := hide (H1.out.ext x1)
  replace DX := hide (DX.out.ext x1)
  replace P5 := hide (P5.out.ext x1)
  replace P6 := hide (P6.out.ext x1)
  replace S7 := hide (S7.out.ext x1)
  replace P7 := hide (P7.out.ext x1)
  clear x1
  have S9 := hide dq
  clear dq
  obtain ⟨w6, hW⟩ : ∃ W, Hid (W = w5.alloc (.cells #[.slice cA cn cc, .slice cB cm ce, .slice cD cq cf] 28)) := ⟨_, rfl⟩
  have xa : Ext w5 w6 := by rw [hW.out]; exact Ext.alloc _ _
  obtain ⟨gP9, hg⟩ : ∃ g, Hid (g = w5.heap.size) := ⟨_, rfl⟩
  have P9 : Hid (Blk w6 gP9 #[.slice cA cn cc, .slice cB cm ce, .slice cD cq cf] 28) := by rw [hW.out, hg.out]; exact Blk.new rfl _ _
  replace X := hide (X.out.trans xa)
  replace H1 := hide (H1.out.ext xa)
  replace DX := hide (DX.out.ext xa)
  replace P5 := hide (P5.out.ext xa)
  replace P6 := hide (P6.out.ext xa)
  replace S7 := hide (S7.out.ext xa)
  replace P7 := hide (P7.out.ext xa)
  replace S9 := hide (S9.out.ext xa)
  clear xa
  have ej : (J1 != J1) = false := by simp
  go_upto_region 6 with fail
  rw [← hW.out, ← hg.out]
  clear hW hg
  have qP7 := P7.out.cell
  have lP7 := P7.out.lt
  have qP9 := P9.out.cell
  have lP9 := P9.out.lt
  go_wp2_with fail
  clear qP7 lP7
  clear qP9 lP9
  refine (S7.out.same S9.out).mono ?_
  rintro e w7 ⟨rfl, x1⟩
  replace X := hide (X.out.trans x1)
  replace H1 := hide (H1.out.ext x1)
  replace DX := hide (DX.out.ext x1)
  replace P5 := hide (P5.out.ext x1)
  replace P6 := hide (P6.out.ext x1)
  replace S7 := hide (S7.out.ext x1)
  replace P7 := hide (P7.out.ext x1)
  replace S9 := hide (S9.out.ext x1)
  replace P9 := hide (P9.out.ext x1)
  clear x1
  clear ej
  clear S9 P9
  clear DX P5
  go_upto_if 63 with fail
  go_cut [] (fun wx => Ext w7 wx)
  case first =>
    as_aux_lemma =>
    cases J1
    · go_wp2
      go_meet
      exact Ext.refl _
    · obtain ⟨e1, e2, e3⟩ := review_law hJ1.out
      rw [hD1.out] at e1
      rw [← e1] at e2 e3
      have IC := hide (fun (wq : World) (xq : Ext w7 wq) => (S7.out.ext xq).iCall I1.out I2.out)
      have IS := hide (fun (wq : World) (xq : Ext w7 wq) => (S7.out.ext xq).iIs)
      rw [e3] at IC
      rw [e2] at IS
      clear e1 e2 e3
      have qP7 := P7.out.cell; have lP7 := P7.out.lt; have qP6 := P6.out.cell; have lP6 := P6.out.lt
      have er : (r3 != r3) = false := by simp
      go_wp2_with fail
      refine (IC.out _ (Ext.refl _)).mono ?_
      rintro e wa ⟨rfl, x1⟩
      have XA := hide x1
      have qP7 := (P7.out.ext x1).cell; have lP7 := (P7.out.ext x1).lt; have qP6 := (P6.out.ext x1).cell; have lP6 := (P6.out.ext x1).lt
      clear x1
      go_wp2_with fail
      refine (IS.out _ XA.out).mono ?_
      rintro e wb ⟨rfl, x2⟩
      have XB := hide (XA.out.trans x2)
      clear x2
      go_wp2
      go_meet
      exact XB.out
  case rest =>
    have xc := hcut
    replace X := hide (X.out.trans xc)
    replace H1 := hide (H1.out.ext xc)
    replace P6 := hide (P6.out.ext xc)
    replace S7 := hide (S7.out.ext xc)
    replace P7 := hide (P7.out.ext xc)
    clear xc hcut
    clear S7 P7 P6
    clear hJ1 hD1 I1 I2 I3
    go_wp2_with fail
    refine (s.DrawVoteCall_m _ _ _ _ H1.out).mono ?_
    rintro e w8 ⟨tA, tn, tc, tB, tm, te, tD, tq, tf, y1, y2, y3, y4, rfl, hy1, hy2, hy3, hy4, sr, x1⟩
    replace X := hide (X.out.trans x1)
    replace H1 := hide (H1.out.ext x1)
    clear x1
    obtain ⟨d2, dq⟩ := dq_of sr
    have DT := hide dq
    have Y1 := hide hy1; have Y2 := hide hy2; have Y3 := hide hy3; have Y4 := hide hy4
    clear sr dq hy1 hy2 hy3 hy4
    obtain ⟨w9, hW⟩ : ∃ W, Hid (W = w8.alloc (.cells #[.slice tA tn tc, .slice tB tm te, .slice tD tq tf] 28)) := ⟨_, rfl⟩
    have xa : Ext w8 w9 := by rw [hW.out]; exact Ext.alloc _ _
    obtain ⟨gP13, hg⟩ : ∃ g, Hid (g = w8.heap.size) := ⟨_, rfl⟩
    have P13 : Hid (Blk w9 gP13 #[.slice tA tn tc, .slice tB tm te, .slice tD tq tf] 28) := by rw [hW.out, hg.out]; exact Blk.new rfl _ _
    replace X := hide (X.out.trans xa)
    replace H1 := hide (H1.out.ext xa)
    replace DT := hide (DT.out.ext xa)
    clear xa
    go_upto_region 13 with fail
    rw [← hW.out, ← hg.out]
    clear hW hg
    have qP13 := P13.out.cell
    have lP13 := P13.out.lt
    go_wp2_with fail
    clear qP13 lP13
    obtain ⟨D2, hD2⟩ : ∃ z, Hid ((voteCF d2 y1 y2 y3 y4).1 = z) := ⟨_, rfl⟩
    obtain ⟨J2, hJ2⟩ : ∃ z, Hid ((voteCF d2 y1 y2 y3 y4).2 = z) := ⟨_, rfl⟩
    refine (DT.out.iVote Y1.out Y2.out Y3.out Y4.out hD2.out hJ2.out).mono ?_
    rintro e w10 ⟨uA, un, uc, uB, um, ue, uD, uq, uf, rfl, dq, x1⟩
    replace X := hide (X.out.trans x1)
    replace H1 := hide (H1.out.ext x1)
    replace DT := hide (DT.out.ext x1)
    replace P13 := hide (P13.out.ext x1)
    clear x1
    have S18 := hide dq
    clear dq
    obtain ⟨w11, hW⟩ : ∃ W, Hid (W = w10.alloc (.cells #[.slice uA un uc, .slice uB um ue, .slice uD uq uf] 28)) := ⟨_, rfl⟩
    have xa : Ext w10 w11 := by rw [hW.out]; exact Ext.alloc _ _
    obtain ⟨gP18, hg⟩ : ∃ g, Hid (g = w10.heap.size) := ⟨_, rfl⟩
    have P18 : Hid (Blk w11 gP18 #[.slice uA un uc, .slice uB um ue, .slice uD uq uf] 28) := by rw [hW.out, hg.out]; exact Blk.new rfl _ _
    replace X := hide (X.out.trans xa)
    replace H1 := hide (H1.out.ext xa)
    replace DT := hide (DT.out.ext xa)
    replace P13 := hide (P13.out.ext xa)
    replace S18 := hide (S18.out.ext xa)
    clear xa
    go_upto_region 14 with fail
    rw [← hW.out, ← hg.out]
    clear hW hg
    have qP13 := P13.out.cell
    have lP13 := P13.out.lt
    go_wp2_with fail
    clear qP13 lP13
    refine (DT.out.sVote Y1.out Y2.out Y3.out Y4.out hD2.out hJ2.out).mono ?_
    rintro e w12 ⟨vA, vn, vc, vB, vm, ve, vD, vq, vf, rfl, dq, x1⟩
    replace X := hide (X.out.trans x1)
    replace H1 := hide (H1.out.ext x1)
    replace DT := hide (DT.out.ext x1)
    replace P13 := hide (P13.out.ext x1)
    replace S18 := hide (S18.out.ext x1)
    replace P18 := hide (P18.out.ext x1)
    clear x1
    have S20 := hide dq
    clear dq
    obtain ⟨w13, hW⟩ : ∃ W, Hid (W = w12.alloc (.cells #[.slice vA vn vc, .slice vB vm ve, .slice vD vq vf] 28)) := ⟨_, rfl⟩
    have xa : Ext w12 w13 := by rw [hW.out]; exact Ext.alloc _ _
    obtain ⟨gP20, hg⟩ : ∃ g, Hid (g = w12.heap.size) := ⟨_, rfl⟩
    have P20 : Hid (Blk w13 gP20 #[.slice vA vn vc, .slice vB vm ve, .slice vD vq vf] 28) := by rw [hW.out, hg.out]; exact Blk.new rfl _ _
    replace X := hide (X.out.trans xa)
    replace H1 := hide (H1.out.ext xa)
    replace DT := hide (DT.out.ext xa)
    replace P13 := hide (P13.out.ext xa)
    replace S18 := hide (S18.out.ext xa)
    replace P18 := hide (P18.out.ext xa)
    replace S20 := hide (S20.out.ext xa)
    clear xa
    have ej : (J2 != J2) = false := by simp
    go_upto_region 15 with fail
    rw [← hW.out, ← hg.out]
    clear hW hg
    have qP18 := P18.out.cell
    have lP18 := P18.out.lt
    have qP20 := P20.out.cell
    have lP20 := P20.out.lt
    go_wp2_with fail
    clear qP18 lP18
    clear qP20 lP20
    refine (S18.out.same S20.out).mono ?_
    rintro e w14 ⟨rfl, x1⟩
    replace X := hide (X.out.trans x1)
    replace H1 := hide (H1.out.ext x1)
    replace DT := hide (DT.out.ext x1)
    replace P13 := hide (P13.out.ext x1)
    replace S18 := hide (S18.out.ext x1)
    replace P18 := hide (P18.out.ext x1)
    replace S20 := hide (S20.out.ext x1)
    replace P20 := hide (P20.out.ext x1)
    clear x1
    clear ej
    clear S20 P20
    go_upto_if 121 with fail
    go_cut [] (fun wx => Ext w14 wx)
    case first =>
      as_aux_lemma =>
      cases J2
      · go_wp2
        go_meet
        exact Ext.refl _
      · obtain ⟨cl, i, k, vv, x, e1, e2, e3, hcl, hv, hx, hk, hs, hb⟩ := vote_law hJ2.out
        rw [hD2.out] at hb
        subst e1 e2 e3
        obtain ⟨old, ho⟩ : ∃ z, Hid (x.getD k 0 = z) := ⟨_, rfl⟩
        obtain ⟨b1, o1, b2, o2, f2, b3, o3, f3, rfl, hn, k1, k2, k3, l1, l2, l3⟩ := vote_at DT.out.rd hv hx hk
        rw [ho.out] at k3 hb
        have hvl := (sheetB_rows hs (List.mem_of_getElem? hv)).1
        have h33 := sheetB_votes hs
        have HB1 : Hid ((voteCF D2 (cl : Int) (i : Int) (k : Int) old).1 = d2) := by show _ = _; rw [hb]
        have HB2 : Hid ((voteCF D2 (cl : Int) (i : Int) (k : Int) old).2 = true) := by show _ = _; rw [hb]
        obtain rfl : tm = 3 := by omega
        have hi := (List.getElem?_eq_some_iff.1 hx).1
        obtain ⟨vl, hvl2⟩ : ∃ z, Hid (vv.length = z) := ⟨_, rfl⟩
        obtain ⟨xl, hxl2⟩ : ∃ z, Hid (x.length = z) := ⟨_, rfl⟩
        rw [hvl2.out] at k1 hi
        rw [hxl2.out] at k2 hk
        have cz : (cl : Int) < 3 := by omega
        have iz : (i : Int) < (vl : Int) := by omega
        have kz : (k : Int) < (xl : Int) := by omega
        have old1 : InR old := by
          have h2 := hs
          simp only [sheetB, Bool.and_eq_true, List.all_eq_true] at h2
          have hvv := h2.1.2 vv (List.mem_of_getElem? hv)
          simp only [votesB, Bool.and_eq_true, List.all_eq_true] at hvv
          have hr := hvv.2 i (by rw [← hvl, hvl2.out]; simpa using hi)
          simp only [rowB, Bool.and_eq_true, List.all_eq_true] at hr
          rw [List.getD_eq_getElem?_getD, hx, Option.getD_some] at hr
          have hz := inB_rgS.1 (hr.2 old (by rw [← ho.out, List.getD_eq_getElem?_getD, List.getElem?_eq_getElem (by rw [hxl2.out]; exact hk)]; exact List.getElem_mem _))
          unfold InR
          omega
        have IV := hide (fun (wq : World) (xq : Ext w14 wq) => (S18.out.ext xq).iVoteS Y1.out Y2.out Y3.out old1 HB1.out HB2.out)
        clear hv hx hs hb hn hvl h33 old1
        have q18 := P18.out.cell; have l18 := P18.out.lt; have q13 := P13.out.cell; have l13 := P13.out.lt
        go_wp2_with fail
        have lz := P13.out.lt
        have HSX := hide (fun (wq : World) (xq : Ext w14 wq) => show (∀ q, wq.cell? ⟨gP18, q, none⟩ = #[.slice uA un uc, .slice uB um ue, .slice uD uq uf][q]?) ∧ (∀ q, wq.cell? ⟨gP13, q, none⟩ = #[.slice tA tn tc, .slice (some ⟨b1, o1, none⟩) 3 te, .slice tD tq tf][q]?) ∧ wq.cell? ⟨b1, o1 + cl, none⟩ = some (.slice (some ⟨b2, o2, none⟩) vl f2) ∧ wq.cell? ⟨b2, o2 + i, none⟩ = some (.slice (some ⟨b3, o3, none⟩) xl f3) ∧ wq.cell? ⟨b3, o3 + k, none⟩ = some (.int .i64 old) from ⟨(P18.out.ext xq).cell, (P13.out.ext xq).cell, (Below.cell (p := ⟨b1, o1 + cl, none⟩) xq l1).trans k1, (Below.cell (p := ⟨b2, o2 + i, none⟩) xq l2).trans k2, (Below.cell (p := ⟨b3, o3 + k, none⟩) xq l3).trans k3⟩)
        go_region_held3 (fun w9 => (∀ q, w9.cell? ⟨gP18, q, none⟩ = #[.slice uA un uc, .slice uB um ue, .slice uD uq uf][q]?) ∧ (∀ q, w9.cell? ⟨gP13, q, none⟩ = #[.slice tA tn tc, .slice (some ⟨b1, o1, none⟩) 3 te, .slice tD tq tf][q]?) ∧ w9.cell? ⟨b1, o1 + cl, none⟩ = some (.slice (some ⟨b2, o2, none⟩) vl f2) ∧ w9.cell? ⟨b2, o2 + i, none⟩ = some (.slice (some ⟨b3, o3, none⟩) xl f3) ∧ w9.cell? ⟨b3, o3 + k, none⟩ = some (.int .i64 old))
          (exact HSX.out _ (by first | with_reducible exact Ext.drew _ | with_reducible exact (Ext.alloc _ _).trans (Ext.drew _) | with_reducible exact (Ext.drew _).trans (Ext.alloc _ _) | with_reducible exact XA.out | with_reducible exact XY.out | with_reducible exact XA.out.trans (Ext.alloc _ _) | exact Ext.set3 XY.out (Nat.le_refl _) _ _ _ | exact (Ext.alloc _ _).trans (Ext.drew _)))
          (first
          | (go_at_call 13; refine (IV.out _ (Ext.drew _)).mono ?_; rintro e wa ⟨zA, zn, zc, zB, zm, ze, zD, zq, zf, rfl, dq, x1⟩; have SZ := hide dq; have XA := hide ((Ext.drew w14).trans x1); clear dq x1)
          | (go_at_call 13; refine (IV.out _ ((Ext.alloc w14 (.cells #[.slice none 0 0, .slice none 0 0, .slice none 0 0] 28)).trans (Ext.drew _))).mono ?_; rintro e wa ⟨zA, zn, zc, zB, zm, ze, zD, zq, zf, rfl, dq, x1⟩; have SY := hide dq; have XY := hide (((Ext.alloc w14 (.cells #[.slice none 0 0, .slice none 0 0, .slice none 0 0] 28)).trans (Ext.drew _)).trans x1); have BZ := hide (((Blk.new (w := w14) rfl #[.slice none 0 0, .slice none 0 0, .slice none 0 0] 28).ext (Ext.drew _)).ext x1); have qz := BZ.out.cell; have fz := BZ.out.free; clear dq x1))
        · skip
          have q13 := (P13.out.ext XA.out).cell; have l13 := (P13.out.ext XA.out).lt
          go_wp2_with fail
          refine ((SZ.out _ (Since.of_ext (Ext.alloc _ _))).same (DT.out.ext (XA.out.trans (Ext.alloc _ _)))).mono ?_
          rintro e wb ⟨rfl, x2⟩
          have XB := hide ((XA.out.trans (Ext.alloc _ _)).trans x2)
          clear x2
          go_wp2
          go_meet
          exact XB.out
        · skip
          have q13 := (P13.out.ext XY.out).cell; have l13 := (P13.out.ext XY.out).lt; have lz2 := BZ.out.lt
          have nz : gP13 ≠ w14.heap.size := by omega
          have nz2 := Ne.symm nz
          have SB := hide (Since.of_tchS (setS_tch wa w14.heap.size (.slice zA zn zc) (.slice zB zm ze) (.slice zD zq zf)) (lo := (w14.alloc (.cells #[.slice none 0 0, .slice none 0 0, .slice none 0 0] 28)).drew.heap.size) (by simp))
          have ES := hide (Ext.set3 XY.out (Nat.le_refl _) (.slice zA zn zc) (.slice zB zm ze) (.slice zD zq zf))
          go_wp2_with fail
          refine ((SY.out _ SB.out).same (DT.out.ext ES.out)).mono ?_
          rintro e wb ⟨rfl, x2⟩
          have XB := hide (ES.out.trans x2)
          clear x2
          go_wp2
          go_meet
          exact XB.out
    case rest =>
      have xc := hcut
      replace X := hide (X.out.trans xc)
      replace H1 := hide (H1.out.ext xc)
      replace DT := hide (DT.out.ext xc)
      replace P13 := hide (P13.out.ext xc)
      replace S18 := hide (S18.out.ext xc)
      replace P18 := hide (P18.out.ext xc)
      clear xc hcut
      clear S18 P18 P13 DT
      clear hJ2 hD2 Y1 Y2 Y3 Y4
      go_wp2_with fail
      refine (s.DrawNewSheet_m _ _ _ _ H1.out).mono ?_
      rintro e w15 ⟨A24, n24, c24, rfl, n64, ls, x1⟩
      replace X := hide (X.out.trans x1)
      replace H1 := hide (H1.out.ext x1)
      clear x1
      obtain ⟨xs, hxn, hxw, -, hlr⟩ := ls
      have LL := hide (hlr w15 (Since.refl _ _))
      have XN := hide hxn
      have XW := hide hxw
      clear hxn hxw hlr H1
      go_wp2_with fail
      obtain ⟨D3, hD3⟩ : ∃ z, Hid ((newF xs).1 = z) := ⟨_, rfl⟩
      obtain ⟨J3, hJ3⟩ : ∃ z, Hid ((newF xs).2 = z) := ⟨_, rfl⟩
      refine (new_i LL.out XW.out XN.out hD3.out hJ3.out).mono ?_
      rintro e w16 ⟨gA, gn, gc, gB, gm, ge, gD, gq, gf, rfl, dq, x1⟩
      replace X := hide (X.out.trans x1)
      replace LL := hide ((LL.out.ext x1 (Nat.le_refl _)).more x1.size)
      clear x1
      have S25 := hide dq
      clear dq
      obtain ⟨w17, hW⟩ : ∃ W, Hid (W = w16.alloc (.cells #[.slice gA gn gc, .slice gB gm ge, .slice gD gq gf] 28)) := ⟨_, rfl⟩
      have xa : Ext w16 w17 := by rw [hW.out]; exact Ext.alloc _ _
      obtain ⟨gP25, hg⟩ : ∃ g, Hid (g = w16.heap.size) := ⟨_, rfl⟩
      have P25 : Hid (Blk w17 gP25 #[.slice gA gn gc, .slice gB gm ge, .slice gD gq gf] 28) := by rw [hW.out, hg.out]; exact Blk.new rfl _ _
      replace X := hide (X.out.trans xa)
      replace LL := hide ((LL.out.ext xa (Nat.le_refl _)).more xa.size)
      replace S25 := hide (S25.out.ext xa)
      clear xa
      go_upto_region 23 with fail
      rw [← hW.out, ← hg.out]
      clear hW hg
      go_wp2_with fail
      refine (new_s LL.out XW.out XN.out hD3.out hJ3.out).mono ?_
      rintro e w18 ⟨hA, hn, hc, hB, hm, he, hD, hq, hf, rfl, dq, x1⟩
      replace X := hide (X.out.trans x1)
      replace LL := hide ((LL.out.ext x1 (Nat.le_refl _)).more x1.size)
      replace S25 := hide (S25.out.ext x1)
      replace P25 := hide (P25.out.ext x1)
      clear x1
      have S27 := hide dq
      clear dq
      obtain ⟨w19, hW⟩ : ∃ W, Hid (W = w18.alloc (.cells #[.slice hA hn hc, .slice hB hm he, .slice hD hq hf] 28)) := ⟨_, rfl⟩
      have xa : Ext w18 w19 := by rw [hW.out]; exact Ext.alloc _ _
      obtain ⟨gP27, hg⟩ : ∃ g, Hid (g = w18.heap.size) := ⟨_, rfl⟩
      have P27 : Hid (Blk w19 gP27 #[.slice hA hn hc, .slice hB hm he, .slice hD hq hf] 28) := by rw [hW.out, hg.out]; exact Blk.new rfl _ _
      replace X := hide (X.out.trans xa)
      replace LL := hide ((LL.out.ext xa (Nat.le_refl _)).more xa.size)
      replace S25 := hide (S25.out.ext xa)
      replace P25 := hide (P25.out.ext xa)
      replace S27 := hide (S27.out.ext xa)
      clear xa
      have ej : (J3 != J3) = false := by simp
      go_upto_region 24 with fail
      rw [← hW.out, ← hg.out]
      clear hW hg
      have qP25 := P25.out.cell
      have lP25 := P25.out.lt
      have qP27 := P27.out.cell
      have lP27 := P27.out.lt
      go_wp2_with fail
      clear qP25 lP25
      clear qP27 lP27
      refine (S25.out.same S27.out).mono ?_
      rintro e w20 ⟨rfl, x1⟩
      replace X := hide (X.out.trans x1)
      replace LL := hide ((LL.out.ext x1 (Nat.le_refl _)).more x1.size)
      replace S25 := hide (S25.out.ext x1)
      replace P25 := hide (P25.out.ext x1)
      replace S27 := hide (S27.out.ext x1)
      replace P27 := hide (P27.out.ext x1)
      clear x1
      clear ej
      clear S27 P27
      cases J3
      · go_wp2
        go_ret
        exact ⟨rfl, X.out⟩
      obtain ⟨e1, e2, e3, e4⟩ := new_law hJ3.out
      rw [hD3.out] at e2 e3
      have OP := hide (S25.out.iOpen)
      rw [e2, e3] at OP
      have E4 := hide e4
      clear e1 e2 e3 e4
      have qP25 := P25.out.cell
      have lP25 := P25.out.lt
      go_wp2_with fail
      clear qP25 lP25
      refine (OP.out).mono ?_
      rintro e w21 ⟨A29, n29, c29, rfl, h29, x1⟩
      replace X := hide (X.out.trans x1)
      replace LL := hide ((LL.out.ext x1 (Nat.le_refl _)).more x1.size)
      replace S25 := hide (S25.out.ext x1)
      replace P25 := hide (P25.out.ext x1)
      clear x1
      have HN := hide h29
      clear h29 OP
      clear S25 P25
      have lcap := LL.out.1; have lcm := LL.out.2.1
      rw [XN.out] at lcap
      go_wp2
      go_loopw [31, 178] (fun s31 s178 wr => ∃ k : Nat, s178 = .int .i64 k ∧ s31 = .int .i64 (namesSum xs k : Nat) ∧ k ≤ n24 ∧ Ext w21 wr) (fun _ s178 _ => n24 - (intOf s178).toNat)
      case atStart => exact ⟨0, by go_num, rfl, Nat.zero_le _, Ext.refl _⟩
      case round =>
        obtain ⟨k, rfl, rfl, hk, x1⟩ := hrel
        have YX := hide x1
        have LK := hide ((LL.out.ext x1 (Nat.le_refl _)).more x1.size)
        clear x1
        have sb := namesSum_le E4.out k
        by_cases hlt : k < n24
        · as_aux_lemma =>
          obtain ⟨x, hx⟩ : ∃ x, Hid (xs[k]? = some x) := get_ex xs k (by rw [XN.out]; exact hlt)
          obtain ⟨xb, xo, C1, e1, C2, e2, rfl, hxb, i0, i1, i2, -, -⟩ := LK.out.item k x hx.out
          have hnm : (namesAt xs k).length = x.1.length := by rw [namesAt_some hx.out]
          obtain ⟨m, hm⟩ : ∃ m, Hid (x.1.length = m) := ⟨_, rfl⟩
          have h3 := names_three (cleanB_items E4.out) k
          rw [hnm, hm.out] at h3
          rw [hm.out] at i0
          have kz : (k : Int) < (n24 : Int) := by omega
          obtain ⟨sk, hsk⟩ : ∃ z, Hid (namesSum xs k = z) := ⟨_, rfl⟩
          have hs1 : namesSum xs (k + 1) = sk + m := by show namesSum xs k + _ = _; rw [hsk.out, hnm, hm.out]
          have HS := hide hs1
          rw [hsk.out] at sb ⊢
          clear hs1 hnm
          have k14 : k ≤ 64 := by omega
          go_wp2
          go_roundw
          case rel => exact ⟨k + 1, by go_num, by rw [HS.out]; go_num, by omega, YX.out.trans (Ext.alloc _ _)⟩
          case measure => simp [intOf]; omega
        · obtain rfl : k = n24 := by omega
          rw [XN.out] at HN
          have hn9 := HN.out
          subst hn9
          have ez : ((namesSum xs k : Nat) : Int) == ((namesSum xs k : Nat) : Int) := by simp
          go_wp2
          go_ret
          exact ⟨rfl, X.out.trans YX.out⟩
end Go.Proofs.Ytofmfagdaiphaaa
