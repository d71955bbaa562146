/- ColumnOf: the program. -/
import Derived.Test.YtaoeomgehpdedaaGreatRT
namespace Go.Proofs.YtaoeomgehpdedaaGreat
open Go.RowKit Go.Sort
set_option linter.unusedVariables false

set_option maxRecDepth 100000 in
set_option maxHeartbeats 4000000 in
theorem i.ColumnOf_law (w : World) (v v1 v2 : Value) (d : CoD) (xs : List ItD) (m : MD) (q : Int) (h : kC.rd w v d) (hok : kC.ok d) (hx : kIt.rd w v1 xs) (hox : kIt.ok xs) (hm : kM.rd w v2 m) (hom : kM.ok m) (hq : InR q) :
    Calls Tryz.prog 25 #[v, v1, v2, .int .i64 q] w fun e w' => ∃ v0, e = .returned (.tuple #[v0, .bool (columnF d xs m q).2]) ∧ kI.fr w' w.heap.size w'.heap.size v0 (columnF d xs m q).1 ∧ kI.ok (columnF d xs m q).1 ∧ Ext w w' := by
  obtain ⟨Ac, nc, cc, Al, nl, cl, r, b, p, f, rfl⟩ := kC.shape h
  obtain ⟨A, c, rfl, hl⟩ := kIt.lr hx
  obtain ⟨Am, nm, cm, Am', nm', cm', rfl⟩ := kM.shape hm
  have HR := hide h
  have HX := hide hx
  have HM := hide hm
  have a1 := hl.1; have a2 := hl.2.1
  have n1 := kIt.ok_len hox
  obtain ⟨W0, hW0⟩ : ∃ W0, Hid (W0 = (w.alloc (.cells #[.slice Ac nc cc, .slice Al nl cl, .int .i64 r, .int .i64 b, .int .i64 p, .int .i64 f] 26)).alloc (.cells #[.slice Am nm cm, .slice Am' nm' cm'] 30)) := ⟨_, rfl⟩
  have X0 : Hid (Ext w W0) := by rw [hW0.out]; exact (Ext.alloc w _).trans (Ext.alloc _ _)
  have B0 : Hid (Blk W0 w.heap.size #[.slice Ac nc cc, .slice Al nl cl, .int .i64 r, .int .i64 b, .int .i64 p, .int .i64 f] 26) := by rw [hW0.out]; exact (Blk.new rfl _ _).alloc _
  have B1 : Hid (Blk W0 (w.heap.size + 1) #[.slice Am nm cm, .slice Am' nm' cm'] 30) := by rw [hW0.out]; exact Blk.new (by simp) _ _
  have HJ := hide (fun (wq : World) (xq : Ext w wq) => i.areJudged_m wq _ _ _ d xs m (kC.rd_ext HR.out xq) hok (kIt.rd_ext HX.out xq) hox (kM.rd_ext HM.out xq) hom)
  obtain ⟨F, hF⟩ : ∃ F, Hid (columnF d xs m q = F) := ⟨_, rfl⟩
  rw [hF.out]
  have HL := hide hl
  clear h hx hm hl
  obtain ⟨n, hn⟩ : ∃ n, Hid (xs.length = n) := ⟨_, rfl⟩
  rw [hn.out] at HJ n1 a1 ⊢
  go_enter Tryz.func25, Tryz.ntmps25
  go_wp2_with fail
  rw [← hW0.out]
  clear hW0
  refine (HJ.out _ X0.out).mono ?_
  rintro e w1 ⟨rfl, x1⟩
  replace X0 := hide (X0.out.trans x1)
  replace B0 := hide (B0.out.ext x1)
  replace B1 := hide (B1.out.ext x1)
  clear x1
  have c0_ := B0.out.cell; have c1_ := B1.out.cell
  cases hh : judgedB d xs m
  · have HF : Hid (F = ([], false)) := by show _ = _; rw [← hF.out]; simp [columnF, hh]
    clear hh
    go_wp2
    go_ret2
    rw [HF.out]
    exact ⟨_, rfl, kI_nil _ _ _ (Nat.le_refl _), Nat.zero_le _, X0.out⟩
  have hj := jOk hh
  have JO := hide hj
  have h14 := hj.ls.n
  rw [hn.out] at h14
  obtain ⟨Bm, dm, Bm', dm', hveq, hm1, hm2⟩ := kM.lr HM.out
  simp only [Value.agg.injEq, Array.mk.injEq, List.cons.injEq, Value.slice.injEq, and_true] at hveq
  obtain ⟨⟨rfl, hnm, rfl⟩, rfl, hnm', rfl⟩ := hveq
  have b1 := hm1.1; have b2 := hm1.2.1
  have HM1 := hide hm1
  have HM2 := hide hm2
  have ln := hj.ln
  rw [hn.out] at ln
  have NM := hide hnm
  have NM' := hide hnm'
  rw [← hnm] at b1 ln
  have r3 := (marksB_ok hj.mr).2.1
  have nln : nm ≤ n ∧ n ≤ nm := by omega
  have jb := (marksB_ok hj.mr).2.2.2.1
  have jb3 := (marksB_ok hj.mr).2.2.1
  clear hj hm1 hm2 hnm hnm' ln
  obtain ⟨J, hJ⟩ : ∃ J, Hid (judges m = J) := ⟨_, rfl⟩
  rw [hJ.out] at jb jb3
  have JC := hide (i.judgesOf_any Am Am' nm nm' cm cm' w.heap.size m w1 (HM2.out.ext X0.out (Nat.le_refl _)) X0.out.size (by omega) NM'.out)
  rw [hJ.out] at JC
  go_wp2_with fail
  clear c0_ c1_
  refine JC.out.mono ?_
  rintro e w2 ⟨rfl, x1⟩
  replace X0 := hide (X0.out.trans x1)
  replace B0 := hide (B0.out.ext x1)
  replace B1 := hide (B1.out.ext x1)
  clear x1
  have c0_ := B0.out.cell; have c1_ := B1.out.cell
  cases hin : inB 0 ((J : Int) - 1) q
  · have HF : Hid (F = ([], false)) := by show _ = _; rw [← hF.out]; simp [columnF, hJ.out, hin]
    clear hh
    go_wp2_with (go_at_call 60; refine (i.within_any _ _ _ _).mono ?_; rintro e w' ⟨rfl, rfl⟩)
    go_ret2
    rw [HF.out]
    exact ⟨_, rfl, kI_nil _ _ _ (Nat.le_refl _), Nat.zero_le _, X0.out⟩
  obtain ⟨j, hqj, hjJ⟩ : ∃ j : Nat, q = j ∧ j < J := by
    have h2 := hin
    simp only [inB, Bool.and_eq_true, decide_eq_true_eq] at h2
    exact ⟨q.toNat, by omega, by omega⟩
  subst hqj
  have HF : Hid (F = (colN d xs m j n, true)) := by show _ = _; rw [← hF.out, ← hn.out]; simp [columnF, hh, hJ.out, hin]
  clear hh hF
  have O9 : Hid (OwnI 3 (w2.alloc (.cells #[] 3)) w2.heap.size (some ⟨w2.heap.size, 0, none⟩) 0 0 (colN d xs m j 0)) := Own.empty w2 3 (Nat.le_refl _)
  clear c0_
  have cB := B0.out.cell
  go_wp2_with (go_at_call 60; refine (i.within_any _ _ _ _).mono ?_; rintro e w' ⟨rfl, rfl⟩)
  clear cB c1_ hin
  go_loopw [10, 29] (fun o i wr => ∃ (k : Nat) (A' : Option Addr) (c' : Nat), k ≤ n ∧ i = .int .i64 k ∧ o = .slice A' k c' ∧ OwnI 3 wr w2.heap.size A' k c' (colN d xs m j k) ∧ Ext w2 wr) (fun _ i _ => n - (intOf i).toNat)
  case atStart => exact ⟨0, _, _, Nat.zero_le _, rfl, rfl, O9.out, Ext.alloc w2 _⟩
  case round =>
    obtain ⟨k, A', c', hk, rfl, rfl, hown, hx⟩ := hrel
    have HO := hide hown
    have HXX := hide hx
    have oc1 := hown.capn; have oc2 := hown.capm
    clear hown hx
    by_cases hlt : k < n
    · have hkx : k < xs.length := by rw [hn.out]; omega
      obtain ⟨g, hgr, hge, hgg⟩ := JO.out.grades hkx
      have XW := hide (X0.out.trans HXX.out)
      obtain ⟨bm, om, Ak, ck, rfl, hbm, rc, rr⟩ := HM1.out.row XW.out (Nat.le_refl _) hgr.out
      have gl : j < g.length := by
        have h8 := (marksB_ok JO.out.mr).2.2.2.2.1 g (List.mem_of_getElem? hgr.out)
        rw [h8.1, hJ.out]; exact hjJ
      have gl9 := (good_ok hgg).2.1
      have cap := rr.1; have cap2 := rr.2.1
      obtain ⟨z, hz⟩ : ∃ z, Hid (g[j]? = some z) := get_ex g j gl
      obtain ⟨bk, ok9, rfl, hbk, zc⟩ := rr.intAt j z hz.out
      have CA : Hid (colAt d xs m j k = baseF d xs k + pointF d xs k [z, z, z]) := by show _ = _; unfold colAt; rw [hge, getD_some hz.out, point3]
      have hg3 : goodMarks [z, z, z] = true := by have := good3c hgg gl; rwa [getD_some hz.out] at this
      have bb := baseF_bd JO.out.co JO.out.ls k
      have pb := pointF_bd JO.out.co xs k hg3
      have TK := hide (colN_succ d xs m j k)
      have IB := hide (fun (wq : World) (xq : Ext wr wq) => i.itemBase_m wq _ d A c w.heap.size xs k (kC.rd_ext HR.out (XW.out.trans xq)) hok JO.out.co (HL.out.ext (XW.out.trans xq) (Nat.le_refl _)) (XW.out.trans xq).size JO.out.ls hkx)
      have PO := hide (fun (wq : World) (xq : Ext wr wq) (B : Nat) (G : Option Addr) (hB : B ≤ wq.heap.size) (hwB : w.heap.size ≤ B) (hs : SlI wq B G 3 [z, z, z]) => i.pointsFor_m wq _ d A c B xs k G 3 3 [z, z, z] (kC.rd_ext HR.out (XW.out.trans xq)) hok JO.out.co ((HL.out.ext (XW.out.trans xq) (Nat.le_refl _)).more hwB) hB JO.out.ls hkx hs hg3)
      rw [hn.out] at IB PO
      rw [CA.out] at TK
      have cB := (B0.out.ext HXX.out).cell
      have cM := (B1.out.ext HXX.out).cell
      have cBa := ((B0.out.ext HXX.out).alloc (.cells #[.int .i64 z, .int .i64 z, .int .i64 z] 3)).cell
      have d1 : (k + 1) * 8 ≤ 140737488355328 := by omega
      have d2 : k + 1 ≤ 4611686018427387904 := by omega
      have zw := XW.out.size
      have zq := HXX.out.size
      generalize baseF d xs k = Zb at *
      generalize pointF d xs k [z, z, z] = P at *
      clear rr hge
      generalize g.length = gn at *
      have i1 : (j : Int) < gn := by omega
      have i2 : k < nm := by omega
      have i3 : (k : Int) < nm := by omega
      go_wp2
      clear rc cM zc
      have kw : IntKind.i64.wrap (Zb + P) = Zb + P := IntWalk.i64_in _ (by omega)
      have e2_ : w.heap.size ≤ wr.heap.size + 1 := by omega
      go_region_law (first
        | (go_simp; go_at_call 54; refine (IB.out _ (by first | exact (Ext.alloc wr _).trans (Ext.drew _) | exact (Ext.drew wr).trans (Ext.alloc _ _) | exact Ext.drew wr)).mono ?_; rintro e w5 ⟨rfl, x5⟩; have B5 := (by first | exact hide (B0.out.ext (HXX.out.trans (((Ext.alloc wr _).trans (Ext.drew _)).trans x5))) | exact hide (B0.out.ext (HXX.out.trans ((Ext.drew wr).trans x5)))); have c5_ := B5.out.cell; have c5a := (B5.out.alloc (.cells #[.int .i64 z, .int .i64 z, .int .i64 z] 3)).cell; have X5 := hide x5; have XW5 : Hid (Ext wr w5) := (by first | exact ((Ext.alloc wr _).trans (Ext.drew _)).trans x5 | exact (Ext.drew wr).trans x5); have zz5 := XW5.out.size; clear x5)
        | (go_simp; go_at_call 50; (first | (with_reducible refine (PO.out _ (XW5.out.trans (Ext.alloc _ _)) (w5.heap.size + 1) _ (by simp) (by omega) (SlI.threeC w5 z _)).mono ?_) | (with_reducible refine (PO.out w5 XW5.out (wr.heap.size + 1) (some ⟨wr.heap.size, 0, none⟩) (by have := X5.out.size; simp at this; omega) (by omega) (SlI.threeC_dr wr z _ X5.out)).mono ?_)); rintro e w6 ⟨rfl, x6⟩; have Y6 : Hid (Ext wr w6) := (by first | exact (XW5.out.trans (Ext.alloc _ _)).trans x6 | exact XW5.out.trans x6); have O6 : Hid (OwnI 3 w6 w2.heap.size A' k c' (colN d xs m j k)) := HO.out.below Y6.out (Nat.le_refl _); have y6 := Nat.le_trans zq Y6.out.size; have h6 := le_alloc (.cells #[.int .i64 (Zb + P)] 3) y6; clear x6 y6)
        | (refine step_append_sl (by rfl) (.tmp 40) (.tmp 54) (by rfl) elem_int (by rfl) (by rfl) (lo := w2.heap.size) (Own.alloc O6.out (.cells #[.int .i64 (Zb + P)] 3)) (Sl.one w6 (.int .i64 (Zb + P)) 3) (one_int _) d1 d2 h6 ?_; intro A9 c9 w9 hap; have Y9 := hide (hap.ext ((HXX.out.trans Y6.out).trans (Ext.alloc w6 _)) O6.out.fromLo); have HAP := hide hap; clear hap))
      all_goals
        clear kw
        go_wp2
        go_roundw
        case rel => exact ⟨k + 1, A9, c9, by omega, by go_num, rfl, own_conv HAP.out.own (Nat.le_refl _) rfl (by rw [TK.out, List.map_append]; rfl), Y9.out⟩
        case measure => simp [intOf]; omega
    · have ek : n = k := by omega
      subst ek
      go_wp2
      go_ret2
      rw [HF.out]
      have z0 := X0.out.size
      exact ⟨_, rfl, kI_of (OwnI.lower HO.out z0), by show (colN d xs m j n).length ≤ _; rw [colN_len]; omega, X0.out.trans HXX.out⟩
end Go.Proofs.YtaoeomgehpdedaaGreat
