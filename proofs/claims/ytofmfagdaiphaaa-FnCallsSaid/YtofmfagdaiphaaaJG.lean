/- Draws of sheets for the laws. (Printed by kg.py.) -/
import Derived.Test.YtofmfagdaiphaaaJF
namespace Go.Proofs.Ytofmfagdaiphaaa
open Go.RowKit Go.Sort
set_option linter.unusedVariables false

abbrev setS (w : World) (x : Nat) (u0 u1 u2 : Value) : World := ((w.setCell ⟨x, 0, none⟩ u0).setCell ⟨x, 1, none⟩ u1).setCell ⟨x, 2, none⟩ u2
theorem setS_tch (w : World) (x : Nat) (u0 u1 u2 : Value) : TchF [x] w (setS w x u0 u1 u2) := (TchF.put _ ⟨x, 0, none⟩ _ (by simp)).trans ((TchF.put _ ⟨x, 1, none⟩ _ (by simp)).trans (TchF.put _ ⟨x, 2, none⟩ _ (by simp)))
theorem Since.of_tchS {fp : List Nat} {lo : Nat} {w w' : World} (k : TchF fp w w') (h : ∀ i ∈ fp, i < lo) : Since lo w w' := ⟨k.size, fun i h1 h2 => k.block i h2 (fun hm => by have := h i hm; omega)⟩
/-- A sheet drawn, in its box; the results' boxes. -/
structure QD (W0 : World) (g M : Nat) (w : World) (b z0 z1 : Nat) (cs : Array Value) (t : TypeId) (Ai : Option Addr) (ni ci : Nat) (Av : Option Addr) (nv cv : Nat) (Ar : Option Addr) (nr cr : Nat) : Prop where
  k : TchF [g] W0 w
  cu : Cur w g M
  bx : Blk w b #[.slice Ai ni ci, .slice Av nv cv, .slice Ar nr cr] 28
  bz : Blk w z0 #[.slice none 0 0, .slice none 0 0, .slice none 0 0] 28
  b1 : Blk w z1 cs t
  rd : ShR W0.heap.size w (.agg #[.slice Ai ni ci, .slice Av nv cv, .slice Ar nr cr])
  gW : g < W0.heap.size
  zg : z0 < g
  z1g : z1 < g
  gb : g < b
section
variable {W0 w w' wx : World} {g M M' b z0 z1 ni ci nv cv nr cr : Nat} {cs : Array Value} {t : TypeId} {Ai Av Ar : Option Addr}
theorem QD.ext (h : QD W0 g M w b z0 z1 cs t Ai ni ci Av nv cv Ar nr cr) (x : Ext w w') : QD W0 g M w' b z0 z1 cs t Ai ni ci Av nv cv Ar nr cr :=
  ⟨h.k.stepX x, h.cu.ext x, h.bx.ext x, h.bz.ext x, h.b1.ext x, h.rd.since (Since.of_ext x), h.gW, h.zg, h.z1g, h.gb⟩
theorem QD.step (h : QD W0 g M w b z0 z1 cs t Ai ni ci Av nv cv Ar nr cr) (x : Ext w wx) (y : TchF [g] wx w') (z : Cur w' g M') : QD W0 g M' w' b z0 z1 cs t Ai ni ci Av nv cv Ar nr cr := by
  have q := h.ext x
  have h1 := h.gW; have h2 := h.zg; have h3 := h.z1g; have h4 := h.gb
  exact ⟨q.k.step y (fun i hi => .inl (by simpa using hi)), z, q.bx.tchF y (by simp; omega), q.bz.tchF y (by simp; omega), q.b1.tchF y (by simp; omega), q.rd.since (Since.of_tchS y (by simpa using h1)), h1, h2, h3, h4⟩
theorem QD.more (h : QD W0 g M w b z0 z1 cs t Ai ni ci Av nv cv Ar nr cr) (hm : M ≤ M') : QD W0 g M' w b z0 z1 cs t Ai ni ci Av nv cv Ar nr cr := ⟨h.k, h.cu.more hm, h.bx, h.bz, h.b1, h.rd, h.gW, h.zg, h.z1g, h.gb⟩
theorem QD.out (h : QD W0 g M w b z0 z1 cs t Ai ni ci Av nv cv Ar nr cr) (w0 : World) (hz : w0.heap.size ≤ z0) (X : Ext w0 W0) (u0 u1 u2 : Value) : ShR w0.heap.size (setS w z0 u0 u1 u2) (.agg #[.slice Ai ni ci, .slice Av nv cv, .slice Ar nr cr]) ∧ Ext w0 (setS w z0 u0 u1 u2) := by
  have h1 := h.gW; have h2 := h.zg
  have t := setS_tch w z0 u0 u1 u2
  exact ⟨(h.rd.since (Since.of_tchS t (by simp; omega))).less X.size, (X.tchF h.k (by simp; omega)).tchF t (by simp; omega)⟩
theorem QD.out2 (h : QD W0 g M w b z0 z1 cs t Ai ni ci Av nv cv Ar nr cr) (w0 : World) (hz : w0.heap.size ≤ z0) (hz1 : w0.heap.size ≤ z1) (X : Ext w0 W0) (u0 u1 u2 v0 v1 v2 : Value) : ShR w0.heap.size (setS (setS w z0 u0 u1 u2) z1 v0 v1 v2) (.agg #[.slice Ai ni ci, .slice Av nv cv, .slice Ar nr cr]) ∧ Ext w0 (setS (setS w z0 u0 u1 u2) z1 v0 v1 v2) := by
  have h1 := h.gW; have h2 := h.zg; have h3 := h.z1g
  have t := setS_tch w z0 u0 u1 u2
  have t2 := setS_tch (setS w z0 u0 u1 u2) z1 v0 v1 v2
  exact ⟨((h.rd.since (Since.of_tchS t (by simp; omega))).since (Since.of_tchS t2 (by simp; omega))).less X.size, ((X.tchF h.k (by simp; omega)).tchF t (by simp; omega)).tchF t2 (by simp; omega)⟩
end
/-- A sheet beside a cursor. -/
structure QS (w0 : World) (g M lo : Nat) (w : World) (b : Nat) (Ai : Option Addr) (ni ci : Nat) (Av : Option Addr) (nv cv : Nat) (Ar : Option Addr) (nr cr : Nat) (d : ShD) : Prop where
  k : TchF [g] w0 w
  cu : Cur w g M
  bx : Blk w b #[.slice Ai ni ci, .slice Av nv cv, .slice Ar nr cr] 28
  gb : g < b
  gl : g < lo
  rd : ∀ w2, Since lo w w2 → kSm.rd w2 (.agg #[.slice Ai ni ci, .slice Av nv cv, .slice Ar nr cr]) d
section
variable {w0 w w' wx : World} {g M M' lo b ni ci nv cv nr cr : Nat} {Ai Av Ar : Option Addr} {d : ShD}
theorem QS.ext (h : QS w0 g M lo w b Ai ni ci Av nv cv Ar nr cr d) (x : Ext w w') : QS w0 g M lo w' b Ai ni ci Av nv cv Ar nr cr d :=
  ⟨h.k.stepX x, h.cu.ext x, h.bx.ext x, h.gb, h.gl, fun w2 k2 => h.rd w2 ((Since.of_ext x).trans k2)⟩
theorem QS.step (h : QS w0 g M lo w b Ai ni ci Av nv cv Ar nr cr d) (x : Ext w wx) (y : TchF [g] wx w') (z : Cur w' g M') : QS w0 g M' lo w' b Ai ni ci Av nv cv Ar nr cr d := by
  have q := h.ext x
  have h1 := h.gl; have h4 := h.gb
  exact ⟨q.k.step y (fun i hi => .inl (by simpa using hi)), z, q.bx.tchF y (by simp; omega), h4, h1, fun w2 k2 => q.rd w2 ((Since.of_tchS y (by simpa using h1)).trans k2)⟩
theorem QS.items (h : QS w0 g M lo w b Ai ni ci Av nv cv Ar nr cr d) : ni = d.1.length ∧ LR kdItem w w.heap.size Ai ci d.1 := by
  obtain ⟨A, c, A', c', D, e, he, h1, -, -⟩ := kSh.lr (h.rd w (Since.refl _ _))
  simp only [Value.agg.injEq, Array.mk.injEq, List.cons.injEq, Value.slice.injEq] at he
  obtain ⟨⟨rfl, rfl, rfl⟩, -⟩ := he
  exact ⟨rfl, h1⟩
end
theorem inB_okQ {lo hi n : Int} (h : inB lo hi n = true) : lo ≤ n ∧ n ≤ hi := by
  simpa only [inB, Bool.and_eq_true, decide_eq_true_eq] using h
set_option maxRecDepth 100000 in
set_option maxHeartbeats 20000000 in
theorem cu.spot_m (w : World) (g M lo : Nat) (Ai : Option Addr) (ni ci : Nat) (Av : Option Addr) (nv cv : Nat) (Ar : Option Addr) (nr cr : Nat) (h : Cur w g M) (hM : M ≤ 4611686018400000000) (hg : g < lo) (hs : ShR lo w (.agg #[.slice Ai ni ci, .slice Av nv cv, .slice Ar nr cr])) :
    Calls Try.prog 37 #[.pointer (some ⟨g, 0, none⟩), .agg #[.slice Ai ni ci, .slice Av nv cv, .slice Ar nr cr]] w fun e w' => ∃ i k, e = .returned (.tuple #[.int .i64 i, .int .i64 k]) ∧ InR i ∧ InR k ∧ Cur w' g (M + 12) ∧ TchF [g] w w' := by
  obtain ⟨d, hok, hrd⟩ := hs
  have glt := h.lt
  obtain ⟨W0, hW0⟩ : ∃ W0, Hid (W0 = w.alloc (.cells #[.slice Ai ni ci, .slice Av nv cv, .slice Ar nr cr] 28)) := ⟨_, rfl⟩
  obtain ⟨b, hb⟩ : ∃ b, Hid (b = w.heap.size) := ⟨_, rfl⟩
  have X : Ext w W0 := by rw [hW0.out]; exact Ext.alloc w _
  have SC : Hid (QS w g M lo W0 b Ai ni ci Av nv cv Ar nr cr d) := ⟨TchF.of_ext X, h.ext X, by rw [hW0.out, hb.out]; exact Blk.new rfl _ _, by rw [hb.out]; exact glt, hg, fun w2 k2 => hrd w2 ((Since.of_ext X).trans k2)⟩
  have hwt : d.1.length ≤ 1048576 := by
    have h1 : kdSh.wt d ≤ 1048576 := hok
    rw [kdSh.wt_eq] at h1
    have h2 := wtL_len kdItem d.1
    have e1 : kdItS.wt d.1 = wtL kdItem d.1 := rfl
    omega
  have WI := hide (fun (i : Nat) (x : ItD) (hx : d.1[i]? = some x) => show x.1.length ≤ 1048576 by
    have h1 : kdSh.wt d ≤ 1048576 := hok
    rw [kdSh.wt_eq] at h1
    have h2 := wtL_at kdItem d.1 i x hx
    have e1 : kdItS.wt d.1 = wtL kdItem d.1 := rfl
    have h3 := kdItem.wt_le (d := x) (show kdItem.wt x ≤ 1048576 by omega)
    exact h3.1)
  have hn := hide SC.out.items.1
  clear h hrd hok X
  go_enter Try.func37, Try.ntmps37
  go_upto_region 1 with fail
  rw [← hW0.out, ← hb.out]
  clear hW0 hb
  have nz : (ni : Int) ≤ 1048576 := by have := hn.out; omega
  clear hwt
  have q8 := SC.out.bx.cell; have l8 := SC.out.bx.lt
  go_cut [6] (fun s6 wx => ∃ z, s6 = .int .i64 z ∧ InR z ∧ QS w g (M + 6) lo wx b Ai ni ci Av nv cv Ar nr cr d)
  case first =>
    go_region_law (go_simp; go_at_call 38; refine (cu.pick_m _ g _ _ (SC.out.cu.ext (by first | with_reducible exact Ext.refl _ | with_reducible exact Ext.drew _)) (by omega) (by first | exact inr_wrap _ | (unfold InR; omega))).mono ?_; rintro e w7 ⟨zi, rfl, zi0, zi1, zi2, c7, k7⟩; have SC := hide (SC.out.step (by first | with_reducible exact Ext.refl _ | with_reducible exact Ext.drew _) k7 c7); have q8 := SC.out.bx.cell; have l8 := SC.out.bx.lt; clear c7 k7 zi1 zi2)
    all_goals
      go_wp2
      go_meet
      exact ⟨_, rfl, by first | exact inr_wrap _ | (unfold InR; unfold wrap64; omega), SC.out⟩
  case rest =>
    obtain ⟨z, rfl, hz, sc⟩ := hcut
    clear SC q8 l8
    have SC := hide sc
    have HZ := hide hz
    clear sc hz
    have q8 := SC.out.bx.cell; have l8 := SC.out.bx.lt
    obtain ⟨wq, rfl⟩ : ∃ wq : World, wq = wc := ⟨_, rfl⟩
    obtain ⟨BB, hBB⟩ : ∃ BB, Hid (inB 0 ((ni : Int) - 1) z = BB) := ⟨_, rfl⟩
    have LI := hide (fun (wq : World) => s.l1In_any z 0 ((ni : Int) - 1) wq)
    rw [hBB.out] at LI
    have ni1 : -1 ≤ (ni : Int) - 1 := by omega
    go_wp2_with fail
    refine (LI.out _).mono ?_
    rintro e wl ⟨rfl, rfl⟩
    clear LI
    go_upto_if 26 with fail
    go_cut [7] (fun s7 wx => ∃ m : Nat, s7 = .int .i64 m ∧ m ≤ 1048576 ∧ QS w g (M + 6) lo wx b Ai ni ci Av nv cv Ar nr cr d)
    case first =>
      cases BB
      · go_wp2
        go_meet
        exact ⟨1, rfl, by omega, SC.out⟩
      · have hz := inB_okQ hBB.out
        obtain ⟨i, rfl⟩ : ∃ i : Nat, z = i := ⟨z.toNat, by omega⟩
        have iz : (i : Int) < ni := by omega
        obtain ⟨x, hx⟩ : ∃ x, Hid (d.1[i]? = some x) := get_ex d.1 i (by have := hn.out; omega)
        obtain ⟨xb, xo, C1, e1, C2, e2, rfl, hxb, i0, -, -, -, -⟩ := SC.out.items.2.item i x hx.out
        have cc1 := SC.out.items.2.1; have cc2 := SC.out.items.2.2.1
        rw [← hn.out] at cc1
        obtain ⟨m, hm⟩ : ∃ m, Hid (x.1.length = m) := ⟨_, rfl⟩
        have m64 := WI.out i x hx.out
        rw [hm.out] at i0 m64
        go_wp2
        go_meet
        exact ⟨m, rfl, m64, SC.out⟩
    case rest =>
      obtain ⟨m, rfl, hm, sc⟩ := hcut
      clear SC q8 l8
      have SC := hide sc
      clear sc
      obtain ⟨wr, rfl⟩ : ∃ wq : World, wq = wc := ⟨_, rfl⟩
      go_wp2_with fail
      refine (cu.pick_m _ g _ _ SC.out.cu (by omega) (by unfold InR; omega)).mono ?_
      rintro e w7 ⟨y1, rfl, y10, y11, -, c7, k7⟩
      have y12 := y11 (by omega)
      have SD := hide (SC.out.step (Ext.refl _) k7 c7)
      clear c7 k7 y11 SC
      have SC := SD
      clear SD
      go_wp2_with fail
      refine (cu.pick_m _ g _ _ SC.out.cu (by omega) (by first | exact inr_wrap _ | (unfold InR; omega))).mono ?_
      rintro e w8 ⟨y2, rfl, y20, -, -, c7, k7⟩
      have SD := hide (SC.out.step (Ext.refl _) k7 c7)
      clear c7 k7 SC
      have SC := SD
      clear SD
      go_wp2_with fail
      refine (cu.pick_m _ g _ _ SC.out.cu (by omega) (by first | exact inr_wrap _ | (unfold InR; omega))).mono ?_
      rintro e w9 ⟨y3, rfl, y30, -, -, c7, k7⟩
      have SD := hide (SC.out.step (Ext.refl _) k7 c7)
      clear c7 k7 SC
      have SC := SD
      clear SD
      go_wp2
      generalize hzz : wrap64 (_ - _) = zz
      refine bodyPost_ret (v := .tuple #[.int .i64 z, .int .i64 zz]) (by simp [results, Try.results37, go_sem]) rfl ?_
      exact ⟨z, zz, rfl, HZ.out, by rw [← hzz]; unfold InR wrap64; omega, SC.out.cu, SC.out.k⟩
abbrev VCPost (w : World) (e : Ending) (w' : World) : Prop := ∃ (Ai : Option Addr) (ni ci : Nat) (Av : Option Addr) (nv cv : Nat) (Ar : Option Addr) (nr cr : Nat) (y1 y2 y3 y4 : Int), e = .returned (.tuple #[.agg #[.slice Ai ni ci, .slice Av nv cv, .slice Ar nr cr], .int .i64 y1, .int .i64 y2, .int .i64 y3, .int .i64 y4]) ∧ InR y1 ∧ InR y2 ∧ InR y3 ∧ InR y4 ∧ ShR w.heap.size w' (.agg #[.slice Ai ni ci, .slice Av nv cv, .slice Ar nr cr]) ∧ Ext w w'
set_option maxRecDepth 100000 in
set_option maxHeartbeats 20000000 in
theorem s.DrawVoteCall_m (w : World) (a0 : Option Addr) (m0 d0 : Nat) (h : ArgB w a0 m0 d0) : Calls Try.prog 12 #[.slice a0 m0 d0] w fun e w' => VCPost w e w' := by
  obtain ⟨W0, hW0⟩ : ∃ W0, Hid (W0 = (w.alloc (.cells #[.slice none 0 0, .slice none 0 0, .slice none 0 0] 28)).alloc (.cells #[.slice a0 m0 d0, .int .i64 0, .int .u64 0] 70)) := ⟨_, rfl⟩
  obtain ⟨g, hg⟩ : ∃ g, Hid (g = w.heap.size + 1) := ⟨_, rfl⟩
  have CU : Hid (Cur W0 g 0) := by
    rw [hW0.out, hg.out]
    have := Cur.new (h.ext (Ext.alloc w (.cells #[.slice none 0 0, .slice none 0 0, .slice none 0 0] 28)))
    show Cur _ _ _
    simpa using this
  have X : Hid (Ext w W0) := by rw [hW0.out]; exact (Ext.alloc w (.cells #[.slice none 0 0, .slice none 0 0, .slice none 0 0] 28)).trans (Ext.alloc _ _)
  have BX : Hid (Blk W0 w.heap.size #[.slice none 0 0, .slice none 0 0, .slice none 0 0] 28) := by rw [hW0.out]; exact ((Blk.new rfl _ _).alloc _)
  have gl : w.heap.size < g := by rw [hg.out]; omega
  have gW : g < W0.heap.size := CU.out.lt
  clear h
  go_enter Try.func12, Try.ntmps12
  go_wp2_with fail
  rw [← hW0.out, ← hg.out]
  clear hW0 hg
  refine (cu.sheet_m W0 g 0 CU.out (by omega)).mono ?_
  rintro e w1 ⟨Ai, ni, ci, Av, nv, cv, Ar, nr, cr, rfl, sr, cu, tc⟩
  obtain ⟨w2, hw2⟩ : ∃ w2, Hid (w2 = w1.alloc (.cells #[.slice Ai ni ci, .slice Av nv cv, .slice Ar nr cr] 28)) := ⟨_, rfl⟩
  obtain ⟨b, hb⟩ : ∃ b, Hid (b = w1.heap.size) := ⟨_, rfl⟩
  have SC : Hid (QD W0 g (0 + 1000000) w2 b w.heap.size w.heap.size #[.slice none 0 0, .slice none 0 0, .slice none 0 0] 28 Ai ni ci Av nv cv Ar nr cr) := by
    have x2 : Ext w1 w2 := by rw [hw2.out]; exact Ext.alloc w1 _
    have hs := tc.size
    exact ⟨tc.stepX x2, cu.ext x2, by rw [hw2.out, hb.out]; exact Blk.new rfl _ _, (BX.out.tchF tc (by simp; omega)).ext x2, (BX.out.tchF tc (by simp; omega)).ext x2, sr.since (Since.of_ext x2), gW, gl, gl, by rw [hb.out]; omega⟩
  clear sr cu tc CU BX
  have gb := SC.out.gb; have u1 : b ≠ w.heap.size := (by omega); have v1 := Ne.symm u1
  have q8 := SC.out.bx.cell; have l8 := SC.out.bx.lt; have q0 := SC.out.bz.cell; have f0 := SC.out.bz.free; have l0 := SC.out.bz.lt
  go_wp2_with fail
  rw [← hw2.out, ← hb.out]
  clear hw2 hb
  refine (cu.spot_m _ g _ W0.heap.size Ai ni ci Av nv cv Ar nr cr SC.out.cu (by omega) SC.out.gW SC.out.rd).mono ?_
  rintro e w3 ⟨i, k, rfl, hi, hk, c7, k7⟩
  have HI := hide hi; have HK := hide hk
  have SD := hide (SC.out.step (Ext.refl _) k7 c7)
  clear c7 k7 SC hi hk
  have SC := SD
  clear SD
  have q8 := SC.out.bx.cell; have l8 := SC.out.bx.lt; have q0 := SC.out.bz.cell; have f0 := SC.out.bz.free; have l0 := SC.out.bz.lt
  go_wp2_with fail
  go_region_law (go_simp; go_at_call 38; refine (cu.pick_m _ g _ _ (SC.out.cu.ext (by first | with_reducible exact Ext.refl _ | with_reducible exact Ext.drew _)) (by omega) (by first | exact inr_wrap _ | (unfold InR; omega))).mono ?_; rintro e w7 ⟨zi, rfl, zi0, zi1, zi2, c7, k7⟩; have SC := hide (SC.out.step (by first | with_reducible exact Ext.refl _ | with_reducible exact Ext.drew _) k7 c7); have q8 := SC.out.bx.cell; have l8 := SC.out.bx.lt; have q0 := SC.out.bz.cell; have f0 := SC.out.bz.free; have l0 := SC.out.bz.lt; clear c7 k7 zi1 zi2)
  all_goals
    go_wp2
    generalize hz : IntKind.i64.wrap (_ - IntKind.i64.wrap (Int.tdiv _ 15)) = z
    generalize hz4 : IntKind.i64.wrap (IntKind.i64.wrap (_ - 1) - IntKind.i64.wrap (Int.tdiv _ 23)) = z4
    refine bodyPost_ret (v := .tuple #[.agg #[.slice Ai ni ci, .slice Av nv cv, .slice Ar nr cr], .int .i64 z, .int .i64 i, .int .i64 k, .int .i64 z4]) (by simp [results, Try.results12, go_sem, q0]) rfl ?_
    have ho := SC.out.out w (Nat.le_refl _) X.out (.slice Ai ni ci) (.slice Av nv cv) (.slice Ar nr cr)
    exact ⟨Ai, ni, ci, Av, nv, cv, Ar, nr, cr, z, i, k, z4, rfl, hz ▸ inr_wrap _, HI.out, HK.out, hz4 ▸ inr_wrap _, ho.1, ho.2⟩
abbrev ARPost (w : World) (e : Ending) (w' : World) : Prop := ∃ (Ai : Option Addr) (ni ci : Nat) (Av : Option Addr) (nv cv : Nat) (Ar : Option Addr) (nr cr : Nat) (y1 y2 y3 : Int), e = .returned (.tuple #[.agg #[.slice Ai ni ci, .slice Av nv cv, .slice Ar nr cr], .agg #[.int .i64 y1, .int .i64 y2, .int .i64 y3]]) ∧ InR y1 ∧ InR y2 ∧ InR y3 ∧ ShR w.heap.size w' (.agg #[.slice Ai ni ci, .slice Av nv cv, .slice Ar nr cr]) ∧ Ext w w'
set_option maxRecDepth 100000 in
set_option maxHeartbeats 20000000 in
theorem s.DrawAddReview_m (w : World) (a0 : Option Addr) (m0 d0 : Nat) (h : ArgB w a0 m0 d0) : Calls Try.prog 6 #[.slice a0 m0 d0] w fun e w' => ARPost w e w' := by
  obtain ⟨W0, hW0⟩ : ∃ W0, Hid (W0 = ((w.alloc (.cells #[.slice none 0 0, .slice none 0 0, .slice none 0 0] 28)).alloc (.cells #[.int .i64 0, .int .i64 0, .int .i64 0] 30)).alloc (.cells #[.slice a0 m0 d0, .int .i64 0, .int .u64 0] 70)) := ⟨_, rfl⟩
  obtain ⟨g, hg⟩ : ∃ g, Hid (g = w.heap.size + 1 + 1) := ⟨_, rfl⟩
  obtain ⟨z1, hz1⟩ : ∃ z, Hid (z = w.heap.size + 1) := ⟨_, rfl⟩
  have CU : Hid (Cur W0 g 0) := by
    rw [hW0.out, hg.out]
    have := Cur.new (h.ext ((Ext.alloc w (.cells #[.slice none 0 0, .slice none 0 0, .slice none 0 0] 28)).trans (Ext.alloc _ (.cells #[.int .i64 0, .int .i64 0, .int .i64 0] 30))))
    show Cur _ _ _
    simpa using this
  have X : Hid (Ext w W0) := by rw [hW0.out]; exact ((Ext.alloc w (.cells #[.slice none 0 0, .slice none 0 0, .slice none 0 0] 28)).trans (Ext.alloc _ (.cells #[.int .i64 0, .int .i64 0, .int .i64 0] 30))).trans (Ext.alloc _ _)
  have BX : Hid (Blk W0 w.heap.size #[.slice none 0 0, .slice none 0 0, .slice none 0 0] 28) := by rw [hW0.out]; exact ((Blk.new rfl _ _).alloc _).alloc _
  have BM : Hid (Blk W0 z1 #[.int .i64 0, .int .i64 0, .int .i64 0] 30) := by rw [hW0.out, hz1.out]; exact (Blk.new (by simp) _ _).alloc _
  have gl : w.heap.size < g := by rw [hg.out]; omega
  have zg : z1 < g := by rw [hg.out, hz1.out]; omega
  have zl1 : w.heap.size ≤ z1 := by rw [hz1.out]; omega
  have zne : w.heap.size ≠ z1 := by rw [hz1.out]; omega
  have zne2 := Ne.symm zne
  have gW : g < W0.heap.size := CU.out.lt
  clear h
  go_enter Try.func6, Try.ntmps6
  go_wp2_with fail
  rw [← hW0.out, ← hg.out, ← hz1.out]
  clear hW0 hg hz1
  refine (cu.sheet_m W0 g 0 CU.out (by omega)).mono ?_
  rintro e w1 ⟨Ai, ni, ci, Av, nv, cv, Ar, nr, cr, rfl, sr, cu, tc⟩
  obtain ⟨w2, hw2⟩ : ∃ w2, Hid (w2 = w1.alloc (.cells #[.slice Ai ni ci, .slice Av nv cv, .slice Ar nr cr] 28)) := ⟨_, rfl⟩
  obtain ⟨b, hb⟩ : ∃ b, Hid (b = w1.heap.size) := ⟨_, rfl⟩
  have SC : Hid (QD W0 g (0 + 1000000) w2 b w.heap.size z1 #[.int .i64 0, .int .i64 0, .int .i64 0] 30 Ai ni ci Av nv cv Ar nr cr) := by
    have x2 : Ext w1 w2 := by rw [hw2.out]; exact Ext.alloc w1 _
    have hs := tc.size
    exact ⟨tc.stepX x2, cu.ext x2, by rw [hw2.out, hb.out]; exact Blk.new rfl _ _, (BX.out.tchF tc (by simp; omega)).ext x2, (BM.out.tchF tc (by simp; omega)).ext x2, sr.since (Since.of_ext x2), gW, gl, zg, by rw [hb.out]; omega⟩
  clear sr cu tc CU BX BM
  have gb := SC.out.gb; have u1 : b ≠ w.heap.size := (by omega); have v1 := Ne.symm u1; have u3 : b ≠ z1 := (by omega); have v3 := Ne.symm u3
  have q8 := SC.out.bx.cell; have l8 := SC.out.bx.lt; have q0 := SC.out.bz.cell; have f0 := SC.out.bz.free; have l0 := SC.out.bz.lt; have q1 := SC.out.b1.cell; have f1 := SC.out.b1.free; have l1 := SC.out.b1.lt
  go_wp2_with fail
  rw [← hw2.out, ← hb.out]
  clear hw2 hb
  refine (cu.spot_m _ g _ W0.heap.size Ai ni ci Av nv cv Ar nr cr SC.out.cu (by omega) SC.out.gW SC.out.rd).mono ?_
  rintro e w3 ⟨i, k, rfl, hi, hk, c7, k7⟩
  have HI := hide hi; have HK := hide hk
  have SD := hide (SC.out.step (Ext.refl _) k7 c7)
  clear c7 k7 SC hi hk
  have SC := SD
  clear SD
  have q8 := SC.out.bx.cell; have l8 := SC.out.bx.lt; have q0 := SC.out.bz.cell; have f0 := SC.out.bz.free; have l0 := SC.out.bz.lt; have q1 := SC.out.b1.cell; have f1 := SC.out.b1.free; have l1 := SC.out.b1.lt
  go_wp2_with fail
  go_region_law (go_simp; go_at_call 38; refine (cu.pick_m _ g _ _ (SC.out.cu.ext (by first | with_reducible exact Ext.refl _ | with_reducible exact Ext.drew _)) (by omega) (by first | exact inr_wrap _ | (unfold InR; omega))).mono ?_; rintro e w7 ⟨zi, rfl, zi0, zi1, zi2, c7, k7⟩; have SC := hide (SC.out.step (by first | with_reducible exact Ext.refl _ | with_reducible exact Ext.drew _) k7 c7); have q8 := SC.out.bx.cell; have l8 := SC.out.bx.lt; have q0 := SC.out.bz.cell; have f0 := SC.out.bz.free; have l0 := SC.out.bz.lt; have q1 := SC.out.b1.cell; have f1 := SC.out.b1.free; have l1 := SC.out.b1.lt; clear c7 k7 zi1 zi2)
  all_goals
    go_wp2
    generalize hz : IntKind.i64.wrap (_ - IntKind.i64.wrap (Int.tdiv _ 23)) = z
    refine bodyPost_ret (v := .tuple #[.agg #[.slice Ai ni ci, .slice Av nv cv, .slice Ar nr cr], .agg #[.int .i64 i, .int .i64 k, .int .i64 z]]) (by simp [results, Try.results6, go_sem, q0, q1]) rfl ?_
    have ho := SC.out.out2 w (Nat.le_refl _) zl1 X.out (.slice Ai ni ci) (.slice Av nv cv) (.slice Ar nr cr) (.int .i64 i) (.int .i64 k) (.int .i64 z)
    exact ⟨Ai, ni, ci, Av, nv, cv, Ar, nr, cr, i, k, z, rfl, HI.out, HK.out, hz ▸ inr_wrap _, ho.1, ho.2⟩
abbrev COPost (w : World) (e : Ending) (w' : World) : Prop := ∃ (Ai : Option Addr) (ni ci : Nat) (Av : Option Addr) (nv cv : Nat) (Ar : Option Addr) (nr cr : Nat) (y1 y2 : Int), e = .returned (.tuple #[.agg #[.slice Ai ni ci, .slice Av nv cv, .slice Ar nr cr], .int .i64 y1, .int .i64 y2]) ∧ InR y1 ∧ InR y2 ∧ ShR w.heap.size w' (.agg #[.slice Ai ni ci, .slice Av nv cv, .slice Ar nr cr]) ∧ Ext w w'
set_option maxRecDepth 100000 in
set_option maxHeartbeats 20000000 in
theorem s.DrawCallOf_m (w : World) (a0 : Option Addr) (m0 d0 : Nat) (h : ArgB w a0 m0 d0) : Calls Try.prog 31 #[.slice a0 m0 d0] w fun e w' => COPost w e w' := by
  obtain ⟨W0, hW0⟩ : ∃ W0, Hid (W0 = (w.alloc (.cells #[.slice none 0 0, .slice none 0 0, .slice none 0 0] 28)).alloc (.cells #[.slice a0 m0 d0, .int .i64 0, .int .u64 0] 70)) := ⟨_, rfl⟩
  obtain ⟨g, hg⟩ : ∃ g, Hid (g = w.heap.size + 1) := ⟨_, rfl⟩
  have CU : Hid (Cur W0 g 0) := by
    rw [hW0.out, hg.out]
    have := Cur.new (h.ext (Ext.alloc w (.cells #[.slice none 0 0, .slice none 0 0, .slice none 0 0] 28)))
    show Cur _ _ _
    simpa using this
  have X : Hid (Ext w W0) := by rw [hW0.out]; exact (Ext.alloc w (.cells #[.slice none 0 0, .slice none 0 0, .slice none 0 0] 28)).trans (Ext.alloc _ _)
  have BX : Hid (Blk W0 w.heap.size #[.slice none 0 0, .slice none 0 0, .slice none 0 0] 28) := by rw [hW0.out]; exact ((Blk.new rfl _ _).alloc _)
  have gl : w.heap.size < g := by rw [hg.out]; omega
  have gW : g < W0.heap.size := CU.out.lt
  clear h
  go_enter Try.func31, Try.ntmps31
  go_wp2_with fail
  rw [← hW0.out, ← hg.out]
  clear hW0 hg
  refine (cu.sheet_m W0 g 0 CU.out (by omega)).mono ?_
  rintro e w1 ⟨Ai, ni, ci, Av, nv, cv, Ar, nr, cr, rfl, sr, cu, tc⟩
  obtain ⟨w2, hw2⟩ : ∃ w2, Hid (w2 = w1.alloc (.cells #[.slice Ai ni ci, .slice Av nv cv, .slice Ar nr cr] 28)) := ⟨_, rfl⟩
  obtain ⟨b, hb⟩ : ∃ b, Hid (b = w1.heap.size) := ⟨_, rfl⟩
  have SC : Hid (QD W0 g (0 + 1000000) w2 b w.heap.size w.heap.size #[.slice none 0 0, .slice none 0 0, .slice none 0 0] 28 Ai ni ci Av nv cv Ar nr cr) := by
    have x2 : Ext w1 w2 := by rw [hw2.out]; exact Ext.alloc w1 _
    have hs := tc.size
    exact ⟨tc.stepX x2, cu.ext x2, by rw [hw2.out, hb.out]; exact Blk.new rfl _ _, (BX.out.tchF tc (by simp; omega)).ext x2, (BX.out.tchF tc (by simp; omega)).ext x2, sr.since (Since.of_ext x2), gW, gl, gl, by rw [hb.out]; omega⟩
  clear sr cu tc CU BX
  have gb := SC.out.gb; have u1 : b ≠ w.heap.size := (by omega); have v1 := Ne.symm u1
  have q8 := SC.out.bx.cell; have l8 := SC.out.bx.lt; have q0 := SC.out.bz.cell; have f0 := SC.out.bz.free; have l0 := SC.out.bz.lt
  go_wp2_with fail
  rw [← hw2.out, ← hb.out]
  clear hw2 hb
  refine (cu.spot_m _ g _ W0.heap.size Ai ni ci Av nv cv Ar nr cr SC.out.cu (by omega) SC.out.gW SC.out.rd).mono ?_
  rintro e w3 ⟨i, k, rfl, hi, hk, c7, k7⟩
  have HI := hide hi; have HK := hide hk
  have SD := hide (SC.out.step (Ext.refl _) k7 c7)
  clear c7 k7 SC hi hk
  have SC := SD
  clear SD
  have q8 := SC.out.bx.cell; have l8 := SC.out.bx.lt; have q0 := SC.out.bz.cell; have f0 := SC.out.bz.free; have l0 := SC.out.bz.lt
  go_wp2
  refine bodyPost_ret (v := .tuple #[.agg #[.slice Ai ni ci, .slice Av nv cv, .slice Ar nr cr], .int .i64 i, .int .i64 k]) (by simp [results, Try.results31, go_sem, q0]) rfl ?_
  have ho := SC.out.out w (Nat.le_refl _) X.out (.slice Ai ni ci) (.slice Av nv cv) (.slice Ar nr cr)
  exact ⟨Ai, ni, ci, Av, nv, cv, Ar, nr, cr, i, k, rfl, HI.out, HK.out, ho.1, ho.2⟩
abbrev ISPost (w : World) (e : Ending) (w' : World) : Prop := ∃ (Ai : Option Addr) (ni ci : Nat) (Av : Option Addr) (nv cv : Nat) (Ar : Option Addr) (nr cr : Nat), e = .returned (.agg #[.slice Ai ni ci, .slice Av nv cv, .slice Ar nr cr]) ∧ ShR w.heap.size w' (.agg #[.slice Ai ni ci, .slice Av nv cv, .slice Ar nr cr]) ∧ Ext w w'
set_option maxRecDepth 100000 in
set_option maxHeartbeats 20000000 in
theorem s.DrawIsSheet_m (w : World) (a0 : Option Addr) (m0 d0 : Nat) (h : ArgB w a0 m0 d0) : Calls Try.prog 58 #[.slice a0 m0 d0] w fun e w' => ISPost w e w' := by
  obtain ⟨W0, hW0⟩ : ∃ W0, Hid (W0 = (w.alloc (.cells #[.slice none 0 0, .slice none 0 0, .slice none 0 0] 28)).alloc (.cells #[.slice a0 m0 d0, .int .i64 0, .int .u64 0] 70)) := ⟨_, rfl⟩
  obtain ⟨g, hg⟩ : ∃ g, Hid (g = w.heap.size + 1) := ⟨_, rfl⟩
  have CU : Hid (Cur W0 g 0) := by
    rw [hW0.out, hg.out]
    have := Cur.new (h.ext (Ext.alloc w (.cells #[.slice none 0 0, .slice none 0 0, .slice none 0 0] 28)))
    show Cur _ _ _
    simpa using this
  have X : Hid (Ext w W0) := by rw [hW0.out]; exact (Ext.alloc w _).trans (Ext.alloc _ _)
  have BX : Hid (Blk W0 w.heap.size #[.slice none 0 0, .slice none 0 0, .slice none 0 0] 28) := by rw [hW0.out]; exact (Blk.new rfl _ _).alloc _
  have gl : w.heap.size < g := by rw [hg.out]; omega
  have gW := CU.out.lt
  clear h
  go_enter Try.func58, Try.ntmps58
  go_wp2_with fail
  rw [← hW0.out, ← hg.out]
  clear hW0 hg
  refine (cu.sheet_m W0 g 0 CU.out (by omega)).mono ?_
  rintro e w1 ⟨Ai, ni, ci, Av, nv, cv, Ar, nr, cr, rfl, sr, cu, tc⟩
  have SR := hide sr
  have BY := hide (BX.out.tchF tc (by simp; omega))
  have Y := hide (X.out.tchF tc (by simp; omega))
  clear sr cu tc CU BX
  have q0 := BY.out.cell; have f0 := BY.out.free; have l0 := BY.out.lt
  go_wp2
  refine bodyPost_ret (v := .agg #[.slice Ai ni ci, .slice Av nv cv, .slice Ar nr cr]) (by simp [results, Try.results58, go_sem, q0]) rfl ?_
  have t := setS_tch w1 w.heap.size (.slice Ai ni ci) (.slice Av nv cv) (.slice Ar nr cr)
  exact ⟨Ai, ni, ci, Av, nv, cv, Ar, nr, cr, rfl, (SR.out.since (Since.of_tchS t (by simp; omega))).less X.out.size, Y.out.tchF t (by simp)⟩
set_option maxRecDepth 100000 in
set_option maxHeartbeats 20000000 in
theorem s.DrawCalledItems_m (w : World) (a0 : Option Addr) (m0 d0 : Nat) (h : ArgB w a0 m0 d0) : Calls Try.prog 19 #[.slice a0 m0 d0] w fun e w' => ISPost w e w' := by
  obtain ⟨W0, hW0⟩ : ∃ W0, Hid (W0 = w.alloc (.cells #[.slice none 0 0, .slice none 0 0, .slice none 0 0] 28)) := ⟨_, rfl⟩
  have X : Hid (Ext w W0) := by rw [hW0.out]; exact Ext.alloc w _
  have BX : Hid (Blk W0 w.heap.size #[.slice none 0 0, .slice none 0 0, .slice none 0 0] 28) := by rw [hW0.out]; exact Blk.new rfl _ _
  have HA := hide (h.ext X.out)
  clear h
  go_enter Try.func19, Try.ntmps19
  go_wp2_with fail
  rw [← hW0.out]
  clear hW0
  refine (s.DrawIsSheet_m W0 _ _ _ HA.out).mono ?_
  rintro e w1 ⟨Ai, ni, ci, Av, nv, cv, Ar, nr, cr, rfl, sr, x1⟩
  have SR := hide sr
  have BY := hide (BX.out.ext x1)
  have Y := hide (X.out.trans x1)
  have wl := BX.out.lt
  clear sr x1 HA BX
  have q0 := BY.out.cell; have f0 := BY.out.free; have l0 := BY.out.lt
  go_wp2
  refine bodyPost_ret (v := .agg #[.slice Ai ni ci, .slice Av nv cv, .slice Ar nr cr]) (by simp [results, Try.results19, go_sem, q0]) rfl ?_
  have t := setS_tch w1 w.heap.size (.slice Ai ni ci) (.slice Av nv cv) (.slice Ar nr cr)
  exact ⟨Ai, ni, ci, Av, nv, cv, Ar, nr, cr, rfl, (SR.out.since (Since.of_tchS t (by simpa using wl))).less X.out.size, Y.out.tchF t (by simp)⟩
abbrev NSPost (w : World) (e : Ending) (w' : World) : Prop := ∃ (A : Option Addr) (n c : Nat), e = .returned (.slice A n c) ∧ n ≤ 64 ∧ LsR w.heap.size w' A n c ∧ Ext w w'
set_option maxRecDepth 100000 in
set_option maxHeartbeats 20000000 in
theorem s.DrawNewSheet_m (w : World) (a0 : Option Addr) (m0 d0 : Nat) (h : ArgB w a0 m0 d0) : Calls Try.prog 15 #[.slice a0 m0 d0] w fun e w' => NSPost w e w' := by
  obtain ⟨W0, hW0⟩ : ∃ W0, Hid (W0 = w.alloc (.cells #[.slice a0 m0 d0, .int .i64 0, .int .u64 0] 70)) := ⟨_, rfl⟩
  obtain ⟨g, hg⟩ : ∃ g, Hid (g = w.heap.size) := ⟨_, rfl⟩
  have CU : Hid (Cur W0 g 0) := by
    rw [hW0.out, hg.out]
    exact Cur.new h
  have X : Hid (Ext w W0) := by rw [hW0.out]; exact Ext.alloc w _
  have gw : w.heap.size ≤ g := by rw [hg.out]; omega
  clear h
  go_enter Try.func15, Try.ntmps15
  go_wp2_with fail
  rw [← hW0.out, ← hg.out]
  clear hW0 hg
  refine (cu.anyItems_m W0 W0 g 0 _ (DS.init CU.out) (by omega)).mono ?_
  rintro e w1 ⟨T1, A, n, c, rfl, hn, d1, s1⟩
  have DD := hide d1.ds
  have LL := hide s1
  clear d1 s1
  go_wp2_with fail
  refine (cu.one_m _ g _ _ DD.out.cu (by omega) (by unfold InR; omega)).mono ?_
  rintro e w2 ⟨q, rfl, c7, k7⟩
  have DE := hide ((DF.start DD.out).curs k7 c7)
  clear c7 k7 DD
  go_upto_if 14 with fail
  go_cut [] (fun wx => DS W0 g 64 (0 + 10000) T1 wx)
  case first =>
    cases q
    · go_wp2_with fail
      go_loopw [17] (fun s wr => ∃ i : Nat, s = .int .i64 i ∧ i ≤ n ∧ DF W0 w1 g 64 (0 + 10000) T1 T1 wr) (fun s _ => n - (intOf s).toNat)
      case atStart => exact ⟨0, by go_num, Nat.zero_le _, DE.out.more (by omega)⟩
      case round =>
        clear DE
        obtain ⟨i, rfl, hi, df⟩ := hrel
        have D := hide df
        clear df
        by_cases hlt : i < n
        · obtain ⟨x, B1, m1, e1, B2, m2, e2, ql, rfl, -, -, t1, t2, hTx, hx, i0, i1, i2⟩ := D.out.ds.it3 LL.out hlt
          have T2 := hide t2
          have TX := hide hTx
          have lcap := D.out.ds.ts.len LL.out
          have lc1 := lcap.2.1; have lc2 := lcap.2.2
          unfold maxLen at lc2
          have mcap := D.out.ds.ts.len t2
          have mc1 := mcap.2.1; have mc2 := mcap.2.2
          unfold maxLen at mc2
          have iz : (i : Int) < (n : Int) := by omega
          have I1 := hide i1
          clear t1 t2 hTx lcap mcap i0 i2
          go_wp2
          go_loopw [26] (fun s wr => ∃ k : Nat, s = .int .i64 k ∧ k ≤ m2 ∧ DF W0 w1 g 64 (0 + 10000) T1 T1 wr ∧ wr.cell? ⟨x, i * 3 + 1, none⟩ = some (.slice B2 m2 e2) ∧ x < wr.heap.size) (fun s _ => m2 - (intOf s).toNat)
          case atStart => exact ⟨0, by go_num, Nat.zero_le _, D.out, I1.out, hx⟩
          case round =>
            clear D i1 I1 hx
            obtain ⟨k, rfl, hk, df, i1, hx⟩ := hrel
            have D := hide df
            clear df
            by_cases hkt : k < m2
            · obtain ⟨x2, mr, rfl, hT2, hm2⟩ := T2.out.pos (show 0 < m2 by omega)
              obtain ⟨b, v, ee, h1, h2, h3⟩ := D.out.ds.ts.load T2.out hkt (show [VK.int][0]? = some .int from rfl)
              obtain rfl : b = x2 := (congrArg Addr.block (Option.some.inj ee)).symm
              obtain ⟨zv, rfl⟩ := h2
              have h1 : wr.cell? ⟨b, k, none⟩ = some (.int .i64 zv) := by simpa using h1
              have kz : (k : Int) < (m2 : Int) := by omega
              have D2 := D.out.store hT2 (i := k) (j := 0) (k := .int) (u := .int .i64 0) rfl ⟨0, rfl⟩
              have ee2 : k * ([VK.int] : List VK).length + 0 = k := by simp
              rw [ee2] at D2
              have DN := hide D2
              have nbx : x ≠ b := fun e => by
                obtain ⟨q1, q2, q3, q4, q5⟩ := LL.out.pos (show 0 < n by omega)
                have q6 := congrArg Addr.block (Option.some.inj q3)
                simp only at q6
                subst q6
                rw [e] at q4
                rw [q4] at hT2
                simp at hT2
              have I9 : Hid ((wr.setCell ⟨b, k, none⟩ (.int .i64 0)).cell? ⟨x, i * 3 + 1, none⟩ = some (.slice (some ⟨b, 0, none⟩) m2 e2)) := by
                show _ = _
                rw [World.cell?_of_block (w := wr) (Below.heap_setCell _ _ _ _ nbx)]
                exact i1
              have hx9 : x < (wr.setCell ⟨b, k, none⟩ (.int .i64 0)).heap.size := by simpa [World.setCell] using hx
              have fb := D.out.ds.ts.free (b := b) (by rw [hT2]; simp) k
              clear D2 ee h3
              go_wp2
              go_roundw
              case rel => exact ⟨k + 1, by go_num, by omega, DN.out, I9.out, hx9⟩
              case measure => simp [intOf]; omega
            · go_wp2
              go_roundw
              case rel => exact ⟨i + 1, by go_num, by omega, D.out⟩
              case measure => simp [intOf]; omega
        · go_wp2
          go_meet
          exact D.out.ds
    · go_wp2
      go_meet
      exact DE.out.ds.more (by omega)
  case rest =>
    have DS9 := hide hcut
    clear DE hcut
    go_wp2
    go_ret
    have r := DS9.out.ts.row_it LL.out
    have ls := r.ls DS9.out.ts
    exact ⟨A, n, c, rfl, (DS9.out.ts.len LL.out).1, ls.less X.out.size, X.out.tchF DS9.out.tch (by simp; omega)⟩
end Go.Proofs.Ytofmfagdaiphaaa
