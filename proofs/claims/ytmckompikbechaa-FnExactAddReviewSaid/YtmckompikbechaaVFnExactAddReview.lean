/- The walk of FnExactAddReview. -/
import Derived.Test.YtmckompikbechaaSK
import Derived.Test.YtmckompikbechaaGR
import Derived.Deep.RegionHeld3
import Derived.Deep.DeepCutAuto
namespace Go.Proofs.Ytmckompikbechaa
open Go.RowKit Go.Sort
set_option linter.unusedVariables false
theorem toReview_m (w : World) (r : RvD) : Calls Try.prog 27 #[.agg #[.int .i64 r.1, .int .i64 r.2.1, .int .i64 r.2.2]] w fun e w' => e = .returned (.agg #[.int .i64 r.1, .int .i64 r.2.1, .int .i64 r.2.2]) ∧ Ext w w' := by
  refine (kdRv.to_ w _ r (kdRv.mk_ w w.heap.size r) (by show 0 ≤ 1048576; omega)).mono ?_
  rintro e w2 ⟨vs', fp', rfl, ho', hfp', hx'⟩
  obtain rfl := kdRv.open_ (kdRv.own_rd ho')
  exact ⟨rfl, hx'⟩
theorem fr_some {w : World} {lo : Nat} {v : Value} {d : ShD} (h : kSm.fr w lo w.heap.size v d) : ∃ l, Hid (l = lo) ∧ kSm.fr w l w.heap.size v d := ⟨_, rfl, h⟩
theorem fr_set3 {w : World} {lo hi g : Nat} {v : Value} {d : ShD} (h : kSm.fr w lo hi v d) (hg : g < lo ∨ hi ≤ g) (u0 u1 u2 : Value) : kSm.fr (((w.setCell ⟨g, 0, none⟩ u0).setCell ⟨g, 1, none⟩ u1).setCell ⟨g, 2, none⟩ u2) lo hi v d := by
  obtain ⟨vs, fp, rfl, ho, hf⟩ := h
  exact ⟨vs, fp, rfl, kdSh.own_keep ho (fun i hi => heap_set3 (by have := hf i hi; omega) _ _ _), hf⟩
set_option maxHeartbeats 16000000 in
set_option maxRecDepth 100000 in
theorem FnExactAddReview_walk (v0 : Value) (z0 : ShD) (z1 : RvD) (w : World) (h0 : kSm.rd w v0 z0) :
    Calls Try.prog 5 #[v0, .agg #[.int .i64 z1.1, .int .i64 z1.2.1, .int .i64 z1.2.2]] w fun e w' => e = .returned (.bool true) ∧ Ext w w' := by
  obtain ⟨Ab0, nb0, cb0, Ab0', nb0', cb0', Ab0'', nb0'', cb0'', rfl⟩ := kSm.shape h0
  have R0 := hide h0; clear h0
  obtain ⟨W0, hW0⟩ : ∃ W0, Hid (W0 = (w.alloc (.cells #[.slice Ab0 nb0 cb0, .slice Ab0' nb0' cb0', .slice Ab0'' nb0'' cb0''] 39)).alloc (.cells #[.int .i64 z1.1, .int .i64 z1.2.1, .int .i64 z1.2.2] 45)) := ⟨_, rfl⟩
  have X : Hid (Ext w W0) := by rw [hW0.out]; exact (Ext.alloc w _).trans (Ext.alloc _ _)
  have Pb0 : Hid (Blk W0 (w.heap.size) #[.slice Ab0 nb0 cb0, .slice Ab0' nb0' cb0', .slice Ab0'' nb0'' cb0''] 39) := by rw [hW0.out]; exact (Blk.new rfl _ _).alloc _
  have Pb1 : Hid (Blk W0 (w.heap.size + 1) #[.int .i64 z1.1, .int .i64 z1.2.1, .int .i64 z1.2.2] 45) := by rw [hW0.out]; exact Blk.new (by simp) _ _
  have szb1 := Pb1.out.lt
  have szb0 := Pb0.out.lt
  have RR0 := R0
  replace R0 := hide (kSm.rd_ext R0.out X.out)
  go_enter Try.func5, Try.ntmps5
  go_wp2_with fail
  rw [← hW0.out]; clear hW0
  refine (kSm.sz _ _ z0 R0.out).mono ?_
  rintro e wz ⟨rfl, x1⟩
  have szz0 := x1.size
  replace R0 := hide (kSm.rd_ext R0.out x1)
  replace X := hide (X.out.trans x1)
  replace Pb0 := hide (Pb0.out.ext x1)
  replace Pb1 := hide (Pb1.out.ext x1)
  clear x1
  by_cases big : 1048576 < kSm.wt z0
  · rw [if_neg (by omega)]
    go_wp2_with fail
    go_ret
    exact ⟨rfl, X.out⟩
  have ok0 : kSm.ok z0 := kSm.ok_of (by omega)
  obtain ⟨m0, hm, hm00⟩ : ∃ m : Nat, Hid ((1048576 : Int) - (kSm.wt z0 : Nat) = (m : Int)) ∧ m ≤ 1048576 := ⟨1048576 - kSm.wt z0, by show _ = _; omega, by omega⟩
  rw [if_pos (by omega), hm.out]
  clear big hm
  have qb0 := Pb0.out.cell
  have qb1 := Pb1.out.cell
  go_wp2_with fail
  clear qb0 qb1
  have SQ : Hid (∀ w', Ext wz w' → (∀ i, w'.cell? ⟨w.heap.size, i, none⟩ = #[Value.slice Ab0 nb0 cb0, .slice Ab0' nb0' cb0', .slice Ab0'' nb0'' cb0''][i]?) ∧ (∀ i, w'.cell? ⟨w.heap.size + 1, i, none⟩ = #[Value.int .i64 z1.1, .int .i64 z1.2.1, .int .i64 z1.2.2][i]?)) := fun w' xq => ⟨(Pb0.out.ext xq).cell, (Pb1.out.ext xq).cell⟩
  have TS := hide (fun (wq : World) (xq : Ext wz wq) => kSm.to wq _ z0 (kSm.rd_ext R0.out xq) ok0)
  go_cut [6, 7] (fun sp sb wx => ∃ (g lo hi : Nat) (As : Option Addr) (ns cs : Nat) (As' : Option Addr) (ns' cs' : Nat) (As'' : Option Addr) (ns'' cs'' : Nat), sp = .pointer (some ⟨g, 0, none⟩) ∧ sb = .bool (addRF z0 z1).2 ∧ Blk wx g #[.slice As ns cs, .slice As' ns' cs', .slice As'' ns'' cs''] 28 ∧ kSm.fr wx lo hi (.agg #[.slice As ns cs, .slice As' ns' cs', .slice As'' ns'' cs'']) (addRF z0 z1).1 ∧ wz.heap.size ≤ lo ∧ lo ≤ hi ∧ hi ≤ wx.heap.size ∧ wz.heap.size ≤ g ∧ (g < lo ∨ hi ≤ g) ∧ g < wx.heap.size ∧ Ext wz wx)
  case first =>
    go_region_held3 (fun w' => (∀ i, w'.cell? ⟨w.heap.size, i, none⟩ = #[Value.slice Ab0 nb0 cb0, .slice Ab0' nb0' cb0', .slice Ab0'' nb0'' cb0''][i]?) ∧ (∀ i, w'.cell? ⟨w.heap.size + 1, i, none⟩ = #[Value.int .i64 z1.1, .int .i64 z1.2.1, .int .i64 z1.2.2][i]?)) (exact SQ.out _ (by (repeat (first | with_reducible refine Ext.setC ?_ (by (try have := YA.out.size); (try have := YB.out.size); (try have := YC.out.size); simp <;> omega) _ | with_reducible exact YC.out | with_reducible exact YB.out | with_reducible exact YA.out | with_reducible exact Ext.drew _ | with_reducible exact Ext.refl _ | with_reducible refine Ext.trans ?_ (Ext.alloc _ _) | with_reducible refine Ext.trans ?_ (Ext.drew _)))))
      (first | (go_at_call 26; refine (s.AddReview_law _ _ z0 z1 (by (repeat (first | with_reducible exact RA.out | with_reducible exact YC.out | with_reducible refine kSm.rd_ext ?_ ZB.out | with_reducible refine kSm.rd_ext ?_ (Ext.alloc _ _) | with_reducible refine kSm.rd_ext ?_ (Ext.drew _)))) ok0).mono ?_; rintro eC wC ⟨vC, rfl, oC, qC, xC⟩; obtain ⟨As, ns, cs, As', ns', cs', As'', ns'', cs'', rfl⟩ := kSm.shape (kSm.fr_rd oC); obtain ⟨lo, hlo, oC⟩ := fr_some oC; have hlo' := hlo.out; (try simp at hlo'); have h9 := (by (first | with_reducible exact Ext.bcellD xC | exact Ext.bcell xC)); have hcC := h9.1; have hfC := h9.2; clear h9; have hzC := xC.size; (try simp at hzC); (try (have : wz.heap.size < wA.heap.size := by omega)); (try (have : wz.heap.size ≠ wA.heap.size := by omega)); (try (have : wz.heap.size < wA.heap.size + 1 := by omega)); (try (have : wz.heap.size ≠ wA.heap.size + 1 := by omega)); (try (have : wz.heap.size + 1 ≠ wA.heap.size := by omega)); (try (have : wz.heap.size < wB.heap.size := by omega)); (try (have : wz.heap.size ≠ wB.heap.size := by omega)); (try (have : wz.heap.size < wB.heap.size + 1 := by omega)); (try (have : wz.heap.size ≠ wB.heap.size + 1 := by omega)); (try (have : wz.heap.size + 1 ≠ wB.heap.size := by omega)); (try (have : wz.heap.size < wC.heap.size := by omega)); (try (have : wz.heap.size ≠ wC.heap.size := by omega)); (try (have : wz.heap.size < wC.heap.size + 1 := by omega)); (try (have : wz.heap.size ≠ wC.heap.size + 1 := by omega)); (try (have : wz.heap.size + 1 ≠ wC.heap.size := by omega)); (try (have : wA.heap.size < wB.heap.size := by omega)); (try (have : wA.heap.size ≠ wB.heap.size := by omega)); (try (have : wA.heap.size < wB.heap.size + 1 := by omega)); (try (have : wA.heap.size ≠ wB.heap.size + 1 := by omega)); (try (have : wA.heap.size + 1 ≠ wB.heap.size := by omega)); (try (have : wA.heap.size < wC.heap.size := by omega)); (try (have : wA.heap.size ≠ wC.heap.size := by omega)); (try (have : wA.heap.size < wC.heap.size + 1 := by omega)); (try (have : wA.heap.size ≠ wC.heap.size + 1 := by omega)); (try (have : wA.heap.size + 1 ≠ wC.heap.size := by omega)); (try (have : wB.heap.size < wA.heap.size := by omega)); (try (have : wB.heap.size ≠ wA.heap.size := by omega)); (try (have : wB.heap.size < wA.heap.size + 1 := by omega)); (try (have : wB.heap.size ≠ wA.heap.size + 1 := by omega)); (try (have : wB.heap.size + 1 ≠ wA.heap.size := by omega)); (try (have : wB.heap.size < wC.heap.size := by omega)); (try (have : wB.heap.size ≠ wC.heap.size := by omega)); (try (have : wB.heap.size < wC.heap.size + 1 := by omega)); (try (have : wB.heap.size ≠ wC.heap.size + 1 := by omega)); (try (have : wB.heap.size + 1 ≠ wC.heap.size := by omega)); have YC : Hid (Ext wz wC) := Ext.trans (by (repeat (first | with_reducible exact YC.out | with_reducible exact YB.out | with_reducible exact YA.out | with_reducible exact Ext.drew _ | with_reducible exact Ext.refl _ | with_reducible refine Ext.trans ?_ (Ext.alloc _ _) | with_reducible refine Ext.trans ?_ (Ext.drew _)))) xC; have ZC := hide xC; have GC := hide oC; clear xC oC qC) | (go_at_call 27; refine (toReview_m _ z1).mono ?_; rintro eB wB ⟨rfl, xB⟩; have h9 := (by (first | with_reducible exact Ext.bcellD xB | exact Ext.bcell xB)); have hcB := h9.1; have hfB := h9.2; clear h9; have hzB := xB.size; (try simp at hzB); (try (have : wz.heap.size < wA.heap.size := by omega)); (try (have : wz.heap.size ≠ wA.heap.size := by omega)); (try (have : wz.heap.size < wA.heap.size + 1 := by omega)); (try (have : wz.heap.size ≠ wA.heap.size + 1 := by omega)); (try (have : wz.heap.size + 1 ≠ wA.heap.size := by omega)); (try (have : wz.heap.size < wB.heap.size := by omega)); (try (have : wz.heap.size ≠ wB.heap.size := by omega)); (try (have : wz.heap.size < wB.heap.size + 1 := by omega)); (try (have : wz.heap.size ≠ wB.heap.size + 1 := by omega)); (try (have : wz.heap.size + 1 ≠ wB.heap.size := by omega)); (try (have : wz.heap.size < wC.heap.size := by omega)); (try (have : wz.heap.size ≠ wC.heap.size := by omega)); (try (have : wz.heap.size < wC.heap.size + 1 := by omega)); (try (have : wz.heap.size ≠ wC.heap.size + 1 := by omega)); (try (have : wz.heap.size + 1 ≠ wC.heap.size := by omega)); (try (have : wA.heap.size < wB.heap.size := by omega)); (try (have : wA.heap.size ≠ wB.heap.size := by omega)); (try (have : wA.heap.size < wB.heap.size + 1 := by omega)); (try (have : wA.heap.size ≠ wB.heap.size + 1 := by omega)); (try (have : wA.heap.size + 1 ≠ wB.heap.size := by omega)); (try (have : wA.heap.size < wC.heap.size := by omega)); (try (have : wA.heap.size ≠ wC.heap.size := by omega)); (try (have : wA.heap.size < wC.heap.size + 1 := by omega)); (try (have : wA.heap.size ≠ wC.heap.size + 1 := by omega)); (try (have : wA.heap.size + 1 ≠ wC.heap.size := by omega)); (try (have : wB.heap.size < wA.heap.size := by omega)); (try (have : wB.heap.size ≠ wA.heap.size := by omega)); (try (have : wB.heap.size < wA.heap.size + 1 := by omega)); (try (have : wB.heap.size ≠ wA.heap.size + 1 := by omega)); (try (have : wB.heap.size + 1 ≠ wA.heap.size := by omega)); (try (have : wB.heap.size < wC.heap.size := by omega)); (try (have : wB.heap.size ≠ wC.heap.size := by omega)); (try (have : wB.heap.size < wC.heap.size + 1 := by omega)); (try (have : wB.heap.size ≠ wC.heap.size + 1 := by omega)); (try (have : wB.heap.size + 1 ≠ wC.heap.size := by omega)); have YB : Hid (Ext wz wB) := Ext.trans (by (repeat (first | with_reducible exact YC.out | with_reducible exact YB.out | with_reducible exact YA.out | with_reducible exact Ext.drew _ | with_reducible exact Ext.refl _ | with_reducible refine Ext.trans ?_ (Ext.alloc _ _) | with_reducible refine Ext.trans ?_ (Ext.drew _)))) xB; have ZB := hide xB; (try (have RA2 := hide (kSm.rd_ext (by (repeat (first | with_reducible exact RA.out | with_reducible exact YC.out | with_reducible refine kSm.rd_ext ?_ ZB.out | with_reducible refine kSm.rd_ext ?_ (Ext.alloc _ _) | with_reducible refine kSm.rd_ext ?_ (Ext.drew _)))) xB); clear RA; have RA := RA2; clear RA2)); clear xB) | (go_at_call 24; refine (TS.out _ (by (repeat (first | with_reducible exact YC.out | with_reducible exact YB.out | with_reducible exact YA.out | with_reducible exact Ext.drew _ | with_reducible exact Ext.refl _ | with_reducible refine Ext.trans ?_ (Ext.alloc _ _) | with_reducible refine Ext.trans ?_ (Ext.drew _))))).mono ?_; rintro eA wA ⟨uA, rfl, oA, xA⟩; have h9 := (by (first | with_reducible exact Ext.bcellD xA | exact Ext.bcell xA)); have hcA := h9.1; have hfA := h9.2; clear h9; have hzA := xA.size; (try simp at hzA); (try (have : wz.heap.size < wA.heap.size := by omega)); (try (have : wz.heap.size ≠ wA.heap.size := by omega)); (try (have : wz.heap.size < wA.heap.size + 1 := by omega)); (try (have : wz.heap.size ≠ wA.heap.size + 1 := by omega)); (try (have : wz.heap.size + 1 ≠ wA.heap.size := by omega)); (try (have : wz.heap.size < wB.heap.size := by omega)); (try (have : wz.heap.size ≠ wB.heap.size := by omega)); (try (have : wz.heap.size < wB.heap.size + 1 := by omega)); (try (have : wz.heap.size ≠ wB.heap.size + 1 := by omega)); (try (have : wz.heap.size + 1 ≠ wB.heap.size := by omega)); (try (have : wz.heap.size < wC.heap.size := by omega)); (try (have : wz.heap.size ≠ wC.heap.size := by omega)); (try (have : wz.heap.size < wC.heap.size + 1 := by omega)); (try (have : wz.heap.size ≠ wC.heap.size + 1 := by omega)); (try (have : wz.heap.size + 1 ≠ wC.heap.size := by omega)); (try (have : wA.heap.size < wB.heap.size := by omega)); (try (have : wA.heap.size ≠ wB.heap.size := by omega)); (try (have : wA.heap.size < wB.heap.size + 1 := by omega)); (try (have : wA.heap.size ≠ wB.heap.size + 1 := by omega)); (try (have : wA.heap.size + 1 ≠ wB.heap.size := by omega)); (try (have : wA.heap.size < wC.heap.size := by omega)); (try (have : wA.heap.size ≠ wC.heap.size := by omega)); (try (have : wA.heap.size < wC.heap.size + 1 := by omega)); (try (have : wA.heap.size ≠ wC.heap.size + 1 := by omega)); (try (have : wA.heap.size + 1 ≠ wC.heap.size := by omega)); (try (have : wB.heap.size < wA.heap.size := by omega)); (try (have : wB.heap.size ≠ wA.heap.size := by omega)); (try (have : wB.heap.size < wA.heap.size + 1 := by omega)); (try (have : wB.heap.size ≠ wA.heap.size + 1 := by omega)); (try (have : wB.heap.size + 1 ≠ wA.heap.size := by omega)); (try (have : wB.heap.size < wC.heap.size := by omega)); (try (have : wB.heap.size ≠ wC.heap.size := by omega)); (try (have : wB.heap.size < wC.heap.size + 1 := by omega)); (try (have : wB.heap.size ≠ wC.heap.size + 1 := by omega)); (try (have : wB.heap.size + 1 ≠ wC.heap.size := by omega)); have YA : Hid (Ext wz wA) := Ext.trans (by (repeat (first | with_reducible exact YC.out | with_reducible exact YB.out | with_reducible exact YA.out | with_reducible exact Ext.drew _ | with_reducible exact Ext.refl _ | with_reducible refine Ext.trans ?_ (Ext.alloc _ _) | with_reducible refine Ext.trans ?_ (Ext.drew _)))) xA; have ZA := hide xA; have RA := hide (kSm.fr_rd oA); clear xA oA))
    all_goals
      go_wp2_with fail
      go_meet
      refine ⟨_, lo, wC.heap.size, As, ns, cs, As', ns', cs', As'', ns'', cs'', rfl, rfl, (by (repeat (first | with_reducible refine Blk.set3 (a := .slice none 0 0) (b := .slice none 0 0) (c := .slice none 0 0) ?_ _ _ _ | with_reducible exact Blk.new (by simp) _ _ | with_reducible refine Blk.alloc ?_ _ | with_reducible refine Blk.ext ?_ ZC.out | with_reducible refine Blk.ext ?_ ZB.out | with_reducible refine Blk.ext ?_ ZA.out | with_reducible refine Blk.ext ?_ (Ext.drew _)))), (by (repeat (first | with_reducible exact GC.out | with_reducible refine fr_set3 ?_ (by omega) _ _ _ | with_reducible refine kSm.fr_ext ?_ (Ext.alloc _ _)))), ?_, ?_, ?_, ?_, ?_, ?_, (by (repeat (first | with_reducible refine Ext.set3 ?_ (by omega) _ _ _ | with_reducible exact YC.out | with_reducible refine Ext.trans ?_ (Ext.alloc _ _))))⟩
      all_goals first | omega | (simp <;> omega)
  case rest =>
  obtain ⟨g2_0, lo2_0, hi2_0, As2_0, ns2_0, cs2_0, As2_0', ns2_0', cs2_0', As2_0'', ns2_0'', cs2_0'', rfl, rfl, hb, hf, c12_0, c22_0, c32_0, c42_0, c52_0, c62_0, x1⟩ := hcut
  obtain ⟨Ws2_0, rfl⟩ : ∃ W' : World, W' = wc := ⟨_, rfl⟩
  have sz2_0x := x1.size
  clear SQ TS
  replace R0 := hide (kSm.rd_ext R0.out x1)
  replace Pb0 := hide (Pb0.out.ext x1)
  replace Pb1 := hide (Pb1.out.ext x1)
  replace X := hide (X.out.trans x1)
  have G2_0 := hide hf; have Ps2_0 := hide hb
  have K2_0 := hide (addRF_ok z0 z1)
  have kc2_0 := kSm.ok_cnt K2_0.out
  clear hf hb x1
  have qb0 := Pb0.out.cell
  have qb1 := Pb1.out.cell
  have qs2_0 := Ps2_0.out.cell
  go_wp2_with fail
  clear qb0 qb1 qs2_0
  refine (kSm.to _ _ z0 R0.out ok0).mono ?_
  rintro e w3 ⟨u3, rfl, o1, x1⟩
  obtain ⟨Aa3, na3, ca3, Aa3', na3', ca3', Aa3'', na3'', ca3'', rfl⟩ := kSm.shape (kSm.fr_rd o1)
  have sz3 := x1.size
  replace G2_0 := hide (kSm.fr_ext G2_0.out x1)
  replace R0 := hide (kSm.rd_ext R0.out x1)
  replace Pb0 := hide (Pb0.out.ext x1)
  replace Pb1 := hide (Pb1.out.ext x1)
  replace Ps2_0 := hide (Ps2_0.out.ext x1)
  replace X := hide (X.out.trans x1)
  have T3 := hide o1; clear o1 x1
  have qb0 := Pb0.out.cell
  have qb1 := Pb1.out.cell
  have qs2_0 := Ps2_0.out.cell
  go_wp2_with fail
  clear qb0 qb1 qs2_0
  obtain ⟨Wa3, hWa3⟩ : ∃ W', Hid (W' = w3.alloc (.cells #[.slice Aa3 na3 ca3, .slice Aa3' na3' ca3', .slice Aa3'' na3'' ca3''] 28)) := ⟨_, rfl⟩
  have x1 : Ext w3 Wa3 := by rw [hWa3.out]; exact Ext.alloc _ _
  replace G2_0 := hide (kSm.fr_ext G2_0.out x1)
  replace T3 := hide (kSm.fr_ext T3.out x1)
  replace R0 := hide (kSm.rd_ext R0.out x1)
  replace Pb0 := hide (Pb0.out.ext x1)
  replace Pb1 := hide (Pb1.out.ext x1)
  replace Ps2_0 := hide (Ps2_0.out.ext x1)
  replace X := hide (X.out.trans x1)
  have Pa3 : Hid (Blk Wa3 w3.heap.size #[.slice Aa3 na3 ca3, .slice Aa3' na3' ca3', .slice Aa3'' na3'' ca3''] 28) := by rw [hWa3.out]; exact Blk.new rfl _ _
  have szPa3 := Pa3.out.lt
  rw [← hWa3.out]; clear hWa3 x1
  have SQ : Hid (∀ w', Ext Wa3 w' → (∀ i, w'.cell? ⟨w.heap.size + 1, i, none⟩ = #[Value.int .i64 z1.1, .int .i64 z1.2.1, .int .i64 z1.2.2][i]?) ∧ (∀ i, w'.cell? ⟨w3.heap.size, i, none⟩ = #[Value.slice Aa3 na3 ca3, .slice Aa3' na3' ca3', .slice Aa3'' na3'' ca3''][i]?)) := fun w' xq => ⟨(Pb1.out.ext xq).cell, (Pa3.out.ext xq).cell⟩
  have RA := hide (kSm.fr_rd T3.out)
  go_cut [9, 10] (fun sp sb wx => ∃ (g lo hi : Nat) (As : Option Addr) (ns cs : Nat) (As' : Option Addr) (ns' cs' : Nat) (As'' : Option Addr) (ns'' cs'' : Nat), sp = .pointer (some ⟨g, 0, none⟩) ∧ sb = .bool (addRF z0 z1).2 ∧ Blk wx g #[.slice As ns cs, .slice As' ns' cs', .slice As'' ns'' cs''] 28 ∧ kSm.fr wx lo hi (.agg #[.slice As ns cs, .slice As' ns' cs', .slice As'' ns'' cs'']) (addRF z0 z1).1 ∧ Wa3.heap.size ≤ lo ∧ lo ≤ hi ∧ hi ≤ wx.heap.size ∧ Wa3.heap.size ≤ g ∧ (g < lo ∨ hi ≤ g) ∧ g < wx.heap.size ∧ Ext Wa3 wx)
  case first =>
    go_region_held3 (fun w' => (∀ i, w'.cell? ⟨w.heap.size + 1, i, none⟩ = #[Value.int .i64 z1.1, .int .i64 z1.2.1, .int .i64 z1.2.2][i]?) ∧ (∀ i, w'.cell? ⟨w3.heap.size, i, none⟩ = #[Value.slice Aa3 na3 ca3, .slice Aa3' na3' ca3', .slice Aa3'' na3'' ca3''][i]?)) (exact SQ.out _ (by (repeat (first | with_reducible refine Ext.setC ?_ (by (try have := YA.out.size); (try have := YB.out.size); (try have := YC.out.size); simp <;> omega) _ | with_reducible exact YC.out | with_reducible exact YB.out | with_reducible exact YA.out | with_reducible exact Ext.drew _ | with_reducible exact Ext.refl _ | with_reducible refine Ext.trans ?_ (Ext.alloc _ _) | with_reducible refine Ext.trans ?_ (Ext.drew _)))))
      (first | (go_at_call 28; refine (i.AddReview_law _ _ z0 z1 (by (repeat (first | with_reducible exact RA.out | with_reducible exact YC.out | with_reducible refine kSm.rd_ext ?_ ZB.out | with_reducible refine kSm.rd_ext ?_ (Ext.alloc _ _) | with_reducible refine kSm.rd_ext ?_ (Ext.drew _)))) ok0).mono ?_; rintro eC wC ⟨vC, rfl, oC, qC, xC⟩; obtain ⟨As, ns, cs, As', ns', cs', As'', ns'', cs'', rfl⟩ := kSm.shape (kSm.fr_rd oC); obtain ⟨lo, hlo, oC⟩ := fr_some oC; have hlo' := hlo.out; (try simp at hlo'); have h9 := (by (first | with_reducible exact Ext.bcellD xC | exact Ext.bcell xC)); have hcC := h9.1; have hfC := h9.2; clear h9; have hzC := xC.size; (try simp at hzC); (try (have : Wa3.heap.size < wA.heap.size := by omega)); (try (have : Wa3.heap.size ≠ wA.heap.size := by omega)); (try (have : Wa3.heap.size < wA.heap.size + 1 := by omega)); (try (have : Wa3.heap.size ≠ wA.heap.size + 1 := by omega)); (try (have : Wa3.heap.size + 1 ≠ wA.heap.size := by omega)); (try (have : Wa3.heap.size < wB.heap.size := by omega)); (try (have : Wa3.heap.size ≠ wB.heap.size := by omega)); (try (have : Wa3.heap.size < wB.heap.size + 1 := by omega)); (try (have : Wa3.heap.size ≠ wB.heap.size + 1 := by omega)); (try (have : Wa3.heap.size + 1 ≠ wB.heap.size := by omega)); (try (have : Wa3.heap.size < wC.heap.size := by omega)); (try (have : Wa3.heap.size ≠ wC.heap.size := by omega)); (try (have : Wa3.heap.size < wC.heap.size + 1 := by omega)); (try (have : Wa3.heap.size ≠ wC.heap.size + 1 := by omega)); (try (have : Wa3.heap.size + 1 ≠ wC.heap.size := by omega)); (try (have : wA.heap.size < wB.heap.size := by omega)); (try (have : wA.heap.size ≠ wB.heap.size := by omega)); (try (have : wA.heap.size < wB.heap.size + 1 := by omega)); (try (have : wA.heap.size ≠ wB.heap.size + 1 := by omega)); (try (have : wA.heap.size + 1 ≠ wB.heap.size := by omega)); (try (have : wA.heap.size < wC.heap.size := by omega)); (try (have : wA.heap.size ≠ wC.heap.size := by omega)); (try (have : wA.heap.size < wC.heap.size + 1 := by omega)); (try (have : wA.heap.size ≠ wC.heap.size + 1 := by omega)); (try (have : wA.heap.size + 1 ≠ wC.heap.size := by omega)); (try (have : wB.heap.size < wA.heap.size := by omega)); (try (have : wB.heap.size ≠ wA.heap.size := by omega)); (try (have : wB.heap.size < wA.heap.size + 1 := by omega)); (try (have : wB.heap.size ≠ wA.heap.size + 1 := by omega)); (try (have : wB.heap.size + 1 ≠ wA.heap.size := by omega)); (try (have : wB.heap.size < wC.heap.size := by omega)); (try (have : wB.heap.size ≠ wC.heap.size := by omega)); (try (have : wB.heap.size < wC.heap.size + 1 := by omega)); (try (have : wB.heap.size ≠ wC.heap.size + 1 := by omega)); (try (have : wB.heap.size + 1 ≠ wC.heap.size := by omega)); have YC : Hid (Ext Wa3 wC) := Ext.trans (by (repeat (first | with_reducible exact YC.out | with_reducible exact YB.out | with_reducible exact YA.out | with_reducible exact Ext.drew _ | with_reducible exact Ext.refl _ | with_reducible refine Ext.trans ?_ (Ext.alloc _ _) | with_reducible refine Ext.trans ?_ (Ext.drew _)))) xC; have ZC := hide xC; have GC := hide oC; clear xC oC qC) | (go_at_call 27; refine (toReview_m _ z1).mono ?_; rintro eB wB ⟨rfl, xB⟩; have h9 := (by (first | with_reducible exact Ext.bcellD xB | exact Ext.bcell xB)); have hcB := h9.1; have hfB := h9.2; clear h9; have hzB := xB.size; (try simp at hzB); (try (have : Wa3.heap.size < wA.heap.size := by omega)); (try (have : Wa3.heap.size ≠ wA.heap.size := by omega)); (try (have : Wa3.heap.size < wA.heap.size + 1 := by omega)); (try (have : Wa3.heap.size ≠ wA.heap.size + 1 := by omega)); (try (have : Wa3.heap.size + 1 ≠ wA.heap.size := by omega)); (try (have : Wa3.heap.size < wB.heap.size := by omega)); (try (have : Wa3.heap.size ≠ wB.heap.size := by omega)); (try (have : Wa3.heap.size < wB.heap.size + 1 := by omega)); (try (have : Wa3.heap.size ≠ wB.heap.size + 1 := by omega)); (try (have : Wa3.heap.size + 1 ≠ wB.heap.size := by omega)); (try (have : Wa3.heap.size < wC.heap.size := by omega)); (try (have : Wa3.heap.size ≠ wC.heap.size := by omega)); (try (have : Wa3.heap.size < wC.heap.size + 1 := by omega)); (try (have : Wa3.heap.size ≠ wC.heap.size + 1 := by omega)); (try (have : Wa3.heap.size + 1 ≠ wC.heap.size := by omega)); (try (have : wA.heap.size < wB.heap.size := by omega)); (try (have : wA.heap.size ≠ wB.heap.size := by omega)); (try (have : wA.heap.size < wB.heap.size + 1 := by omega)); (try (have : wA.heap.size ≠ wB.heap.size + 1 := by omega)); (try (have : wA.heap.size + 1 ≠ wB.heap.size := by omega)); (try (have : wA.heap.size < wC.heap.size := by omega)); (try (have : wA.heap.size ≠ wC.heap.size := by omega)); (try (have : wA.heap.size < wC.heap.size + 1 := by omega)); (try (have : wA.heap.size ≠ wC.heap.size + 1 := by omega)); (try (have : wA.heap.size + 1 ≠ wC.heap.size := by omega)); (try (have : wB.heap.size < wA.heap.size := by omega)); (try (have : wB.heap.size ≠ wA.heap.size := by omega)); (try (have : wB.heap.size < wA.heap.size + 1 := by omega)); (try (have : wB.heap.size ≠ wA.heap.size + 1 := by omega)); (try (have : wB.heap.size + 1 ≠ wA.heap.size := by omega)); (try (have : wB.heap.size < wC.heap.size := by omega)); (try (have : wB.heap.size ≠ wC.heap.size := by omega)); (try (have : wB.heap.size < wC.heap.size + 1 := by omega)); (try (have : wB.heap.size ≠ wC.heap.size + 1 := by omega)); (try (have : wB.heap.size + 1 ≠ wC.heap.size := by omega)); have YB : Hid (Ext Wa3 wB) := Ext.trans (by (repeat (first | with_reducible exact YC.out | with_reducible exact YB.out | with_reducible exact YA.out | with_reducible exact Ext.drew _ | with_reducible exact Ext.refl _ | with_reducible refine Ext.trans ?_ (Ext.alloc _ _) | with_reducible refine Ext.trans ?_ (Ext.drew _)))) xB; have ZB := hide xB; (try (have RA2 := hide (kSm.rd_ext (by (repeat (first | with_reducible exact RA.out | with_reducible exact YC.out | with_reducible refine kSm.rd_ext ?_ ZB.out | with_reducible refine kSm.rd_ext ?_ (Ext.alloc _ _) | with_reducible refine kSm.rd_ext ?_ (Ext.drew _)))) xB); clear RA; have RA := RA2; clear RA2)); clear xB))
    all_goals
      go_wp2_with fail
      go_meet
      refine ⟨_, lo, wC.heap.size, As, ns, cs, As', ns', cs', As'', ns'', cs'', rfl, rfl, (by (repeat (first | with_reducible refine Blk.set3 (a := .slice none 0 0) (b := .slice none 0 0) (c := .slice none 0 0) ?_ _ _ _ | with_reducible exact Blk.new (by simp) _ _ | with_reducible refine Blk.alloc ?_ _ | with_reducible refine Blk.ext ?_ ZC.out | with_reducible refine Blk.ext ?_ ZB.out | with_reducible refine Blk.ext ?_ ZA.out | with_reducible refine Blk.ext ?_ (Ext.drew _)))), (by (repeat (first | with_reducible exact GC.out | with_reducible refine fr_set3 ?_ (by omega) _ _ _ | with_reducible refine kSm.fr_ext ?_ (Ext.alloc _ _)))), ?_, ?_, ?_, ?_, ?_, ?_, (by (repeat (first | with_reducible refine Ext.set3 ?_ (by omega) _ _ _ | with_reducible exact YC.out | with_reducible refine Ext.trans ?_ (Ext.alloc _ _))))⟩
      all_goals first | omega | (simp <;> omega)
  case rest =>
  obtain ⟨g4_0, lo4_0, hi4_0, As4_0, ns4_0, cs4_0, As4_0', ns4_0', cs4_0', As4_0'', ns4_0'', cs4_0'', rfl, rfl, hb, hf, c14_0, c24_0, c34_0, c44_0, c54_0, c64_0, x1⟩ := hcut
  obtain ⟨Ws4_0, rfl⟩ : ∃ W' : World, W' = wc := ⟨_, rfl⟩
  have sz4_0x := x1.size
  clear SQ RA
  replace G2_0 := hide (kSm.fr_ext G2_0.out x1)
  replace T3 := hide (kSm.fr_ext T3.out x1)
  replace R0 := hide (kSm.rd_ext R0.out x1)
  replace Pb0 := hide (Pb0.out.ext x1)
  replace Pb1 := hide (Pb1.out.ext x1)
  replace Ps2_0 := hide (Ps2_0.out.ext x1)
  replace Pa3 := hide (Pa3.out.ext x1)
  replace X := hide (X.out.trans x1)
  have G4_0 := hide hf; have Ps4_0 := hide hb
  have K4_0 := hide (addRF_ok z0 z1)
  have kc4_0 := kSm.ok_cnt K4_0.out
  clear hf hb x1
  have qb0 := Pb0.out.cell
  have qb1 := Pb1.out.cell
  have qs2_0 := Ps2_0.out.cell
  have qa3 := Pa3.out.cell
  have qs4_0 := Ps4_0.out.cell
  go_wp2_with fail
  clear qb0 qb1 qs2_0 qa3 qs4_0
  refine (kSm.eq _ _ _ _ (kSm.fr_rd G4_0.out) (kSm.fr_rd G2_0.out) K2_0.out).mono ?_
  rintro e w5 ⟨rfl, x1⟩
  have sz5 := x1.size
  replace G2_0 := hide (kSm.fr_ext G2_0.out x1)
  replace T3 := hide (kSm.fr_ext T3.out x1)
  replace G4_0 := hide (kSm.fr_ext G4_0.out x1)
  replace R0 := hide (kSm.rd_ext R0.out x1)
  replace Pb0 := hide (Pb0.out.ext x1)
  replace Pb1 := hide (Pb1.out.ext x1)
  replace Ps2_0 := hide (Ps2_0.out.ext x1)
  replace Pa3 := hide (Pa3.out.ext x1)
  replace Ps4_0 := hide (Ps4_0.out.ext x1)
  replace X := hide (X.out.trans x1)
  clear x1
  have qb0 := Pb0.out.cell
  have qb1 := Pb1.out.cell
  have qs2_0 := Ps2_0.out.cell
  have qa3 := Pa3.out.cell
  have qs4_0 := Ps4_0.out.cell
  go_wp2_with fail
  clear qb0 qb1 qs2_0 qa3 qs4_0
  go_region_held3 (fun w' => (∀ i, w'.cell? ⟨w3.heap.size, i, none⟩ = #[Value.slice Aa3 na3 ca3, .slice Aa3' na3' ca3', .slice Aa3'' na3'' ca3''][i]?) ∧ (∀ i, w'.cell? ⟨w.heap.size, i, none⟩ = #[Value.slice Ab0 nb0 cb0, .slice Ab0' nb0' cb0', .slice Ab0'' nb0'' cb0''][i]?)) (first | exact ⟨(Pa3.out.ext Y7.out).cell, (Pb0.out.ext Y7.out).cell⟩ | exact ⟨(Pa3.out.ext Y6.out).cell, (Pb0.out.ext Y6.out).cell⟩ | exact ⟨(Pa3.out.ext (Ext.drew w5)).cell, (Pb0.out.ext (Ext.drew w5)).cell⟩)
    (first | (go_at_call 24; refine (kSm.to w5.drew _ z0 (kSm.rd_ext R0.out (Ext.drew w5)) ok0).mono ?_; rintro e w6 ⟨u6, rfl, o1, x1⟩; have T6 := hide o1; have Y6 := hide ((Ext.drew w5).trans x1); clear o1 x1) | (go_at_call 17; refine (kSm.eq w6 _ _ z0 (kSm.fr_rd (kSm.fr_ext T3.out Y6.out)) (kSm.fr_rd T6.out) ok0).mono ?_; rintro e w7 ⟨rfl, x1⟩; have Y7 := hide (Y6.out.trans x1); clear x1))
  have sz7 := Y7.out.size
  replace G2_0 := hide (kSm.fr_ext G2_0.out Y7.out)
  replace T3 := hide (kSm.fr_ext T3.out Y7.out)
  replace G4_0 := hide (kSm.fr_ext G4_0.out Y7.out)
  replace R0 := hide (kSm.rd_ext R0.out Y7.out)
  replace Pb0 := hide (Pb0.out.ext Y7.out)
  replace Pb1 := hide (Pb1.out.ext Y7.out)
  replace Ps2_0 := hide (Ps2_0.out.ext Y7.out)
  replace Pa3 := hide (Pa3.out.ext Y7.out)
  replace Ps4_0 := hide (Ps4_0.out.ext Y7.out)
  replace X := hide (X.out.trans Y7.out)
  clear T6 Y6 Y7
  have qb0 := Pb0.out.cell
  have qb1 := Pb1.out.cell
  have qs2_0 := Ps2_0.out.cell
  have qa3 := Pa3.out.cell
  have qs4_0 := Ps4_0.out.cell
  go_wp2_with fail
  clear qb0 qb1 qs2_0 qa3 qs4_0
  have kx8 := kSm.ok_cnt ok0
  refine (kSm.mark _ _ _ _ z0 _ T3.out ok0 (by omega) (by omega)).mono ?_
  rintro e w8 ⟨rfl, o1, t1⟩
  have sz8 := t1.size
  replace G2_0 := hide (kSm.fr_tch G2_0.out t1 (by omega))
  replace G4_0 := hide (kSm.fr_tch G4_0.out t1 (by omega))
  replace Pb0 := hide (Pb0.out.tch t1 (by omega))
  replace Pb1 := hide (Pb1.out.tch t1 (by omega))
  replace Ps2_0 := hide (Ps2_0.out.tch t1 (by omega))
  replace Pa3 := hide (Pa3.out.tch t1 (by omega))
  replace Ps4_0 := hide (Ps4_0.out.tch t1 (by omega))
  replace R0 := hide (kSm.rd_ext RR0.out (X.out.tch t1 (by omega)))
  replace X := hide (X.out.tch t1 (by omega))
  have T3m := hide o1; clear o1 t1 T3
  have qb0 := Pb0.out.cell
  have qb1 := Pb1.out.cell
  have qs2_0 := Ps2_0.out.cell
  have qa3 := Pa3.out.cell
  have qs4_0 := Ps4_0.out.cell
  go_wp2_with fail
  clear qb0 qb1 qs2_0 qa3 qs4_0
  refine (kSm.eq _ _ _ _ (kSm.fr_rd G4_0.out) (kSm.fr_rd G2_0.out) K2_0.out).mono ?_
  rintro e w9 ⟨rfl, x1⟩
  have sz9 := x1.size
  replace G2_0 := hide (kSm.fr_ext G2_0.out x1)
  replace T3m := hide (kSm.fr_ext T3m.out x1)
  replace G4_0 := hide (kSm.fr_ext G4_0.out x1)
  replace R0 := hide (kSm.rd_ext R0.out x1)
  replace Pb0 := hide (Pb0.out.ext x1)
  replace Pb1 := hide (Pb1.out.ext x1)
  replace Ps2_0 := hide (Ps2_0.out.ext x1)
  replace Pa3 := hide (Pa3.out.ext x1)
  replace Ps4_0 := hide (Ps4_0.out.ext x1)
  replace X := hide (X.out.trans x1)
  clear x1
  have qb0 := Pb0.out.cell
  have qb1 := Pb1.out.cell
  have qs2_0 := Ps2_0.out.cell
  have qa3 := Pa3.out.cell
  have qs4_0 := Ps4_0.out.cell
  go_wp2_with fail
  clear qb0 qb1 qs2_0 qa3 qs4_0
  have kx10 := kSm.ok_cnt K4_0.out
  refine (kSm.mark _ _ _ _ (addRF z0 z1).1 _ G4_0.out K4_0.out (by omega) (by omega)).mono ?_
  rintro e w10 ⟨rfl, o1, t1⟩
  have sz10 := t1.size
  replace G2_0 := hide (kSm.fr_tch G2_0.out t1 (by omega))
  replace T3m := hide (kSm.fr_tch T3m.out t1 (by omega))
  replace Pb0 := hide (Pb0.out.tch t1 (by omega))
  replace Pb1 := hide (Pb1.out.tch t1 (by omega))
  replace Ps2_0 := hide (Ps2_0.out.tch t1 (by omega))
  replace Pa3 := hide (Pa3.out.tch t1 (by omega))
  replace Ps4_0 := hide (Ps4_0.out.tch t1 (by omega))
  replace R0 := hide (kSm.rd_ext RR0.out (X.out.tch t1 (by omega)))
  replace X := hide (X.out.tch t1 (by omega))
  have G4_0m := hide o1; clear o1 t1 G4_0
  have qb0 := Pb0.out.cell
  have qb1 := Pb1.out.cell
  have qs2_0 := Ps2_0.out.cell
  have qa3 := Pa3.out.cell
  have qs4_0 := Ps4_0.out.cell
  go_wp2_with fail
  clear qb0 qb1 qs2_0 qa3 qs4_0
  refine (kSm.held _ _ (addRF z0 z1).1 _ (kSm.fr_rd G4_0m.out) K4_0.out (by omega) (by omega)).mono ?_
  rintro e w11 ⟨rfl, x1⟩
  have sz11 := x1.size
  replace G2_0 := hide (kSm.fr_ext G2_0.out x1)
  replace T3m := hide (kSm.fr_ext T3m.out x1)
  replace G4_0m := hide (kSm.fr_ext G4_0m.out x1)
  replace R0 := hide (kSm.rd_ext R0.out x1)
  replace Pb0 := hide (Pb0.out.ext x1)
  replace Pb1 := hide (Pb1.out.ext x1)
  replace Ps2_0 := hide (Ps2_0.out.ext x1)
  replace Pa3 := hide (Pa3.out.ext x1)
  replace Ps4_0 := hide (Ps4_0.out.ext x1)
  replace X := hide (X.out.trans x1)
  clear x1
  have qb0 := Pb0.out.cell
  have qb1 := Pb1.out.cell
  have qs2_0 := Ps2_0.out.cell
  have qa3 := Pa3.out.cell
  have qs4_0 := Ps4_0.out.cell
  go_wp2_with fail
  clear qb0 qb1 qs2_0 qa3 qs4_0
  have SQ : Hid (∀ w', Ext w11 w' → (∀ i, w'.cell? ⟨w.heap.size, i, none⟩ = #[Value.slice Ab0 nb0 cb0, .slice Ab0' nb0' cb0', .slice Ab0'' nb0'' cb0''][i]?) ∧ (∀ i, w'.cell? ⟨w.heap.size + 1, i, none⟩ = #[Value.int .i64 z1.1, .int .i64 z1.2.1, .int .i64 z1.2.2][i]?)) := fun w' xq => ⟨(Pb0.out.ext xq).cell, (Pb1.out.ext xq).cell⟩
  have TS := hide (fun (wq : World) (xq : Ext w11 wq) => kSm.to wq _ z0 (kSm.rd_ext R0.out xq) ok0)
  go_cut [14, 15] (fun sp sb wx => ∃ (g lo hi : Nat) (As : Option Addr) (ns cs : Nat) (As' : Option Addr) (ns' cs' : Nat) (As'' : Option Addr) (ns'' cs'' : Nat), sp = .pointer (some ⟨g, 0, none⟩) ∧ sb = .bool (addRF z0 z1).2 ∧ Blk wx g #[.slice As ns cs, .slice As' ns' cs', .slice As'' ns'' cs''] 28 ∧ kSm.fr wx lo hi (.agg #[.slice As ns cs, .slice As' ns' cs', .slice As'' ns'' cs'']) (addRF z0 z1).1 ∧ w11.heap.size ≤ lo ∧ lo ≤ hi ∧ hi ≤ wx.heap.size ∧ w11.heap.size ≤ g ∧ (g < lo ∨ hi ≤ g) ∧ g < wx.heap.size ∧ Ext w11 wx)
  case first =>
    go_region_held3 (fun w' => (∀ i, w'.cell? ⟨w.heap.size, i, none⟩ = #[Value.slice Ab0 nb0 cb0, .slice Ab0' nb0' cb0', .slice Ab0'' nb0'' cb0''][i]?) ∧ (∀ i, w'.cell? ⟨w.heap.size + 1, i, none⟩ = #[Value.int .i64 z1.1, .int .i64 z1.2.1, .int .i64 z1.2.2][i]?)) (exact SQ.out _ (by (repeat (first | with_reducible refine Ext.setC ?_ (by (try have := YA.out.size); (try have := YB.out.size); (try have := YC.out.size); simp <;> omega) _ | with_reducible exact YC.out | with_reducible exact YB.out | with_reducible exact YA.out | with_reducible exact Ext.drew _ | with_reducible exact Ext.refl _ | with_reducible refine Ext.trans ?_ (Ext.alloc _ _) | with_reducible refine Ext.trans ?_ (Ext.drew _)))))
      (first | (go_at_call 28; refine (i.AddReview_law _ _ z0 z1 (by (repeat (first | with_reducible exact RA.out | with_reducible exact YC.out | with_reducible refine kSm.rd_ext ?_ ZB.out | with_reducible refine kSm.rd_ext ?_ (Ext.alloc _ _) | with_reducible refine kSm.rd_ext ?_ (Ext.drew _)))) ok0).mono ?_; rintro eC wC ⟨vC, rfl, oC, qC, xC⟩; obtain ⟨As, ns, cs, As', ns', cs', As'', ns'', cs'', rfl⟩ := kSm.shape (kSm.fr_rd oC); obtain ⟨lo, hlo, oC⟩ := fr_some oC; have hlo' := hlo.out; (try simp at hlo'); have h9 := (by (first | with_reducible exact Ext.bcellD xC | exact Ext.bcell xC)); have hcC := h9.1; have hfC := h9.2; clear h9; have hzC := xC.size; (try simp at hzC); (try (have : w11.heap.size < wA.heap.size := by omega)); (try (have : w11.heap.size ≠ wA.heap.size := by omega)); (try (have : w11.heap.size < wA.heap.size + 1 := by omega)); (try (have : w11.heap.size ≠ wA.heap.size + 1 := by omega)); (try (have : w11.heap.size + 1 ≠ wA.heap.size := by omega)); (try (have : w11.heap.size < wB.heap.size := by omega)); (try (have : w11.heap.size ≠ wB.heap.size := by omega)); (try (have : w11.heap.size < wB.heap.size + 1 := by omega)); (try (have : w11.heap.size ≠ wB.heap.size + 1 := by omega)); (try (have : w11.heap.size + 1 ≠ wB.heap.size := by omega)); (try (have : w11.heap.size < wC.heap.size := by omega)); (try (have : w11.heap.size ≠ wC.heap.size := by omega)); (try (have : w11.heap.size < wC.heap.size + 1 := by omega)); (try (have : w11.heap.size ≠ wC.heap.size + 1 := by omega)); (try (have : w11.heap.size + 1 ≠ wC.heap.size := by omega)); (try (have : wA.heap.size < wB.heap.size := by omega)); (try (have : wA.heap.size ≠ wB.heap.size := by omega)); (try (have : wA.heap.size < wB.heap.size + 1 := by omega)); (try (have : wA.heap.size ≠ wB.heap.size + 1 := by omega)); (try (have : wA.heap.size + 1 ≠ wB.heap.size := by omega)); (try (have : wA.heap.size < wC.heap.size := by omega)); (try (have : wA.heap.size ≠ wC.heap.size := by omega)); (try (have : wA.heap.size < wC.heap.size + 1 := by omega)); (try (have : wA.heap.size ≠ wC.heap.size + 1 := by omega)); (try (have : wA.heap.size + 1 ≠ wC.heap.size := by omega)); (try (have : wB.heap.size < wA.heap.size := by omega)); (try (have : wB.heap.size ≠ wA.heap.size := by omega)); (try (have : wB.heap.size < wA.heap.size + 1 := by omega)); (try (have : wB.heap.size ≠ wA.heap.size + 1 := by omega)); (try (have : wB.heap.size + 1 ≠ wA.heap.size := by omega)); (try (have : wB.heap.size < wC.heap.size := by omega)); (try (have : wB.heap.size ≠ wC.heap.size := by omega)); (try (have : wB.heap.size < wC.heap.size + 1 := by omega)); (try (have : wB.heap.size ≠ wC.heap.size + 1 := by omega)); (try (have : wB.heap.size + 1 ≠ wC.heap.size := by omega)); have YC : Hid (Ext w11 wC) := Ext.trans (by (repeat (first | with_reducible exact YC.out | with_reducible exact YB.out | with_reducible exact YA.out | with_reducible exact Ext.drew _ | with_reducible exact Ext.refl _ | with_reducible refine Ext.trans ?_ (Ext.alloc _ _) | with_reducible refine Ext.trans ?_ (Ext.drew _)))) xC; have ZC := hide xC; have GC := hide oC; clear xC oC qC) | (go_at_call 27; refine (toReview_m _ z1).mono ?_; rintro eB wB ⟨rfl, xB⟩; have h9 := (by (first | with_reducible exact Ext.bcellD xB | exact Ext.bcell xB)); have hcB := h9.1; have hfB := h9.2; clear h9; have hzB := xB.size; (try simp at hzB); (try (have : w11.heap.size < wA.heap.size := by omega)); (try (have : w11.heap.size ≠ wA.heap.size := by omega)); (try (have : w11.heap.size < wA.heap.size + 1 := by omega)); (try (have : w11.heap.size ≠ wA.heap.size + 1 := by omega)); (try (have : w11.heap.size + 1 ≠ wA.heap.size := by omega)); (try (have : w11.heap.size < wB.heap.size := by omega)); (try (have : w11.heap.size ≠ wB.heap.size := by omega)); (try (have : w11.heap.size < wB.heap.size + 1 := by omega)); (try (have : w11.heap.size ≠ wB.heap.size + 1 := by omega)); (try (have : w11.heap.size + 1 ≠ wB.heap.size := by omega)); (try (have : w11.heap.size < wC.heap.size := by omega)); (try (have : w11.heap.size ≠ wC.heap.size := by omega)); (try (have : w11.heap.size < wC.heap.size + 1 := by omega)); (try (have : w11.heap.size ≠ wC.heap.size + 1 := by omega)); (try (have : w11.heap.size + 1 ≠ wC.heap.size := by omega)); (try (have : wA.heap.size < wB.heap.size := by omega)); (try (have : wA.heap.size ≠ wB.heap.size := by omega)); (try (have : wA.heap.size < wB.heap.size + 1 := by omega)); (try (have : wA.heap.size ≠ wB.heap.size + 1 := by omega)); (try (have : wA.heap.size + 1 ≠ wB.heap.size := by omega)); (try (have : wA.heap.size < wC.heap.size := by omega)); (try (have : wA.heap.size ≠ wC.heap.size := by omega)); (try (have : wA.heap.size < wC.heap.size + 1 := by omega)); (try (have : wA.heap.size ≠ wC.heap.size + 1 := by omega)); (try (have : wA.heap.size + 1 ≠ wC.heap.size := by omega)); (try (have : wB.heap.size < wA.heap.size := by omega)); (try (have : wB.heap.size ≠ wA.heap.size := by omega)); (try (have : wB.heap.size < wA.heap.size + 1 := by omega)); (try (have : wB.heap.size ≠ wA.heap.size + 1 := by omega)); (try (have : wB.heap.size + 1 ≠ wA.heap.size := by omega)); (try (have : wB.heap.size < wC.heap.size := by omega)); (try (have : wB.heap.size ≠ wC.heap.size := by omega)); (try (have : wB.heap.size < wC.heap.size + 1 := by omega)); (try (have : wB.heap.size ≠ wC.heap.size + 1 := by omega)); (try (have : wB.heap.size + 1 ≠ wC.heap.size := by omega)); have YB : Hid (Ext w11 wB) := Ext.trans (by (repeat (first | with_reducible exact YC.out | with_reducible exact YB.out | with_reducible exact YA.out | with_reducible exact Ext.drew _ | with_reducible exact Ext.refl _ | with_reducible refine Ext.trans ?_ (Ext.alloc _ _) | with_reducible refine Ext.trans ?_ (Ext.drew _)))) xB; have ZB := hide xB; (try (have RA2 := hide (kSm.rd_ext (by (repeat (first | with_reducible exact RA.out | with_reducible exact YC.out | with_reducible refine kSm.rd_ext ?_ ZB.out | with_reducible refine kSm.rd_ext ?_ (Ext.alloc _ _) | with_reducible refine kSm.rd_ext ?_ (Ext.drew _)))) xB); clear RA; have RA := RA2; clear RA2)); clear xB) | (go_at_call 24; refine (TS.out _ (by (repeat (first | with_reducible exact YC.out | with_reducible exact YB.out | with_reducible exact YA.out | with_reducible exact Ext.drew _ | with_reducible exact Ext.refl _ | with_reducible refine Ext.trans ?_ (Ext.alloc _ _) | with_reducible refine Ext.trans ?_ (Ext.drew _))))).mono ?_; rintro eA wA ⟨uA, rfl, oA, xA⟩; have h9 := (by (first | with_reducible exact Ext.bcellD xA | exact Ext.bcell xA)); have hcA := h9.1; have hfA := h9.2; clear h9; have hzA := xA.size; (try simp at hzA); (try (have : w11.heap.size < wA.heap.size := by omega)); (try (have : w11.heap.size ≠ wA.heap.size := by omega)); (try (have : w11.heap.size < wA.heap.size + 1 := by omega)); (try (have : w11.heap.size ≠ wA.heap.size + 1 := by omega)); (try (have : w11.heap.size + 1 ≠ wA.heap.size := by omega)); (try (have : w11.heap.size < wB.heap.size := by omega)); (try (have : w11.heap.size ≠ wB.heap.size := by omega)); (try (have : w11.heap.size < wB.heap.size + 1 := by omega)); (try (have : w11.heap.size ≠ wB.heap.size + 1 := by omega)); (try (have : w11.heap.size + 1 ≠ wB.heap.size := by omega)); (try (have : w11.heap.size < wC.heap.size := by omega)); (try (have : w11.heap.size ≠ wC.heap.size := by omega)); (try (have : w11.heap.size < wC.heap.size + 1 := by omega)); (try (have : w11.heap.size ≠ wC.heap.size + 1 := by omega)); (try (have : w11.heap.size + 1 ≠ wC.heap.size := by omega)); (try (have : wA.heap.size < wB.heap.size := by omega)); (try (have : wA.heap.size ≠ wB.heap.size := by omega)); (try (have : wA.heap.size < wB.heap.size + 1 := by omega)); (try (have : wA.heap.size ≠ wB.heap.size + 1 := by omega)); (try (have : wA.heap.size + 1 ≠ wB.heap.size := by omega)); (try (have : wA.heap.size < wC.heap.size := by omega)); (try (have : wA.heap.size ≠ wC.heap.size := by omega)); (try (have : wA.heap.size < wC.heap.size + 1 := by omega)); (try (have : wA.heap.size ≠ wC.heap.size + 1 := by omega)); (try (have : wA.heap.size + 1 ≠ wC.heap.size := by omega)); (try (have : wB.heap.size < wA.heap.size := by omega)); (try (have : wB.heap.size ≠ wA.heap.size := by omega)); (try (have : wB.heap.size < wA.heap.size + 1 := by omega)); (try (have : wB.heap.size ≠ wA.heap.size + 1 := by omega)); (try (have : wB.heap.size + 1 ≠ wA.heap.size := by omega)); (try (have : wB.heap.size < wC.heap.size := by omega)); (try (have : wB.heap.size ≠ wC.heap.size := by omega)); (try (have : wB.heap.size < wC.heap.size + 1 := by omega)); (try (have : wB.heap.size ≠ wC.heap.size + 1 := by omega)); (try (have : wB.heap.size + 1 ≠ wC.heap.size := by omega)); have YA : Hid (Ext w11 wA) := Ext.trans (by (repeat (first | with_reducible exact YC.out | with_reducible exact YB.out | with_reducible exact YA.out | with_reducible exact Ext.drew _ | with_reducible exact Ext.refl _ | with_reducible refine Ext.trans ?_ (Ext.alloc _ _) | with_reducible refine Ext.trans ?_ (Ext.drew _)))) xA; have ZA := hide xA; have RA := hide (kSm.fr_rd oA); clear xA oA))
    all_goals
      go_wp2_with fail
      go_meet
      refine ⟨_, lo, wC.heap.size, As, ns, cs, As', ns', cs', As'', ns'', cs'', rfl, rfl, (by (repeat (first | with_reducible refine Blk.set3 (a := .slice none 0 0) (b := .slice none 0 0) (c := .slice none 0 0) ?_ _ _ _ | with_reducible exact Blk.new (by simp) _ _ | with_reducible refine Blk.alloc ?_ _ | with_reducible refine Blk.ext ?_ ZC.out | with_reducible refine Blk.ext ?_ ZB.out | with_reducible refine Blk.ext ?_ ZA.out | with_reducible refine Blk.ext ?_ (Ext.drew _)))), (by (repeat (first | with_reducible exact GC.out | with_reducible refine fr_set3 ?_ (by omega) _ _ _ | with_reducible refine kSm.fr_ext ?_ (Ext.alloc _ _)))), ?_, ?_, ?_, ?_, ?_, ?_, (by (repeat (first | with_reducible refine Ext.set3 ?_ (by omega) _ _ _ | with_reducible exact YC.out | with_reducible refine Ext.trans ?_ (Ext.alloc _ _))))⟩
      all_goals first | omega | (simp <;> omega)
  case rest =>
  obtain ⟨g13_0, lo13_0, hi13_0, As13_0, ns13_0, cs13_0, As13_0', ns13_0', cs13_0', As13_0'', ns13_0'', cs13_0'', rfl, rfl, hb, hf, c113_0, c213_0, c313_0, c413_0, c513_0, c613_0, x1⟩ := hcut
  obtain ⟨Ws13_0, rfl⟩ : ∃ W' : World, W' = wc := ⟨_, rfl⟩
  have sz13_0x := x1.size
  clear SQ TS
  replace G2_0 := hide (kSm.fr_ext G2_0.out x1)
  replace T3m := hide (kSm.fr_ext T3m.out x1)
  replace G4_0m := hide (kSm.fr_ext G4_0m.out x1)
  replace R0 := hide (kSm.rd_ext R0.out x1)
  replace Pb0 := hide (Pb0.out.ext x1)
  replace Pb1 := hide (Pb1.out.ext x1)
  replace Ps2_0 := hide (Ps2_0.out.ext x1)
  replace Pa3 := hide (Pa3.out.ext x1)
  replace Ps4_0 := hide (Ps4_0.out.ext x1)
  replace X := hide (X.out.trans x1)
  have G13_0 := hide hf; have Ps13_0 := hide hb
  have K13_0 := hide (addRF_ok z0 z1)
  have kc13_0 := kSm.ok_cnt K13_0.out
  clear hf hb x1
  have qb0 := Pb0.out.cell
  have qb1 := Pb1.out.cell
  have qs2_0 := Ps2_0.out.cell
  have qa3 := Pa3.out.cell
  have qs4_0 := Ps4_0.out.cell
  have qs13_0 := Ps13_0.out.cell
  go_wp2_with fail
  clear qb0 qb1 qs2_0 qa3 qs4_0 qs13_0
  refine (kSm.eq _ _ _ _ (kSm.fr_rd G13_0.out) (kSm.fr_rd G2_0.out) K2_0.out).mono ?_
  rintro e w14 ⟨rfl, x1⟩
  have sz14 := x1.size
  replace G2_0 := hide (kSm.fr_ext G2_0.out x1)
  replace T3m := hide (kSm.fr_ext T3m.out x1)
  replace G4_0m := hide (kSm.fr_ext G4_0m.out x1)
  replace G13_0 := hide (kSm.fr_ext G13_0.out x1)
  replace R0 := hide (kSm.rd_ext R0.out x1)
  replace Pb0 := hide (Pb0.out.ext x1)
  replace Pb1 := hide (Pb1.out.ext x1)
  replace Ps2_0 := hide (Ps2_0.out.ext x1)
  replace Pa3 := hide (Pa3.out.ext x1)
  replace Ps4_0 := hide (Ps4_0.out.ext x1)
  replace Ps13_0 := hide (Ps13_0.out.ext x1)
  replace X := hide (X.out.trans x1)
  clear x1
  have qb0 := Pb0.out.cell
  have qb1 := Pb1.out.cell
  have qs2_0 := Ps2_0.out.cell
  have qa3 := Pa3.out.cell
  have qs4_0 := Ps4_0.out.cell
  have qs13_0 := Ps13_0.out.cell
  go_wp2_with fail
  clear qb0 qb1 qs2_0 qa3 qs4_0 qs13_0
  refine (kSm.held _ _ (addRF z0 z1).1 _ (kSm.fr_rd G4_0m.out) K4_0.out (by omega) (by omega)).mono ?_
  rintro e w15 ⟨rfl, x1⟩
  have sz15 := x1.size
  replace G2_0 := hide (kSm.fr_ext G2_0.out x1)
  replace T3m := hide (kSm.fr_ext T3m.out x1)
  replace G4_0m := hide (kSm.fr_ext G4_0m.out x1)
  replace G13_0 := hide (kSm.fr_ext G13_0.out x1)
  replace R0 := hide (kSm.rd_ext R0.out x1)
  replace Pb0 := hide (Pb0.out.ext x1)
  replace Pb1 := hide (Pb1.out.ext x1)
  replace Ps2_0 := hide (Ps2_0.out.ext x1)
  replace Pa3 := hide (Pa3.out.ext x1)
  replace Ps4_0 := hide (Ps4_0.out.ext x1)
  replace Ps13_0 := hide (Ps13_0.out.ext x1)
  replace X := hide (X.out.trans x1)
  clear x1
  have qb0 := Pb0.out.cell
  have qb1 := Pb1.out.cell
  have qs2_0 := Ps2_0.out.cell
  have qa3 := Pa3.out.cell
  have qs4_0 := Ps4_0.out.cell
  have qs13_0 := Ps13_0.out.cell
  go_wp2_with fail
  clear qb0 qb1 qs2_0 qa3 qs4_0 qs13_0
  go_ret
  exact ⟨rfl, X.out⟩

end Go.Proofs.Ytmckompikbechaa
