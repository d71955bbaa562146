/- A grade or a component's mark set: the laws' functions. -/
import Derived.Test.YtifdpmpconjhmaaMN
namespace Go.Proofs.Ytifdpmpconjhmaa
open Go.RowKit Go.Sort
set_option linter.unusedVariables false

set_option maxRecDepth 100000 in
set_option maxHeartbeats 4000000 in
theorem s.SetGrade_law (w : World) (v : Value) (d : MD) (y1 y2 y3 : Int) (h : kM.rd w v d) (hok : kM.ok d) (hy1 : InR y1) (hy2 : InR y2) (hy3 : InR y3) :
    Calls Try.prog 9 #[v, .int .i64 y1, .int .i64 y2, .int .i64 y3] w fun e w' => ∃ v0, e = .returned (.tuple #[v0, .bool (setGradeF d y1 y2 y3).2]) ∧ kM.fr w' w.heap.size w'.heap.size v0 (setGradeF d y1 y2 y3).1 ∧ kM.ok (setGradeF d y1 y2 y3).1 ∧ Ext w w' := by
  obtain ⟨A, c, A', c', rfl, h1, h2⟩ := kM.lr h
  have HR := hide h
  have a1 := h1.1; have a2 := h1.2.1; have a3 := h2.1; have a4 := h2.2.1
  clear h h1 h2
  obtain ⟨n, hn⟩ : ∃ n, Hid (d.1.length = n) := ⟨_, rfl⟩
  obtain ⟨n', hn'⟩ : ∃ n', Hid (d.2.length = n') := ⟨_, rfl⟩
  rw [hn.out, hn'.out] at HR ⊢
  rw [hn.out] at a1
  rw [hn'.out] at a3
  obtain ⟨W0, hW0⟩ : ∃ W0, Hid (W0 = (w.alloc (.cells #[.slice A n c, .slice A' n' c'] 25)).alloc (.cells #[.slice none 0 0, .slice none 0 0] 25)) := ⟨_, rfl⟩
  have X : Hid (Ext w W0) := by rw [hW0.out]; exact (Ext.alloc w _).trans (Ext.alloc _ _)
  have B0 : Hid (Blk W0 w.heap.size #[.slice A n c, .slice A' n' c'] 25) := by rw [hW0.out]; exact (Blk.new rfl _ _).alloc _
  have B1 : Hid (Blk W0 (w.heap.size + 1) #[.slice none 0 0, .slice none 0 0] 25) := by rw [hW0.out]; exact Blk.new (by simp) _ _
  obtain ⟨F, hF⟩ : ∃ F, Hid (setGradeF d y1 y2 y3 = F) := ⟨_, rfl⟩
  rw [hF.out]
  go_enter Try.func9, Try.ntmps9
  go_wp2_with fail
  rw [← hW0.out]
  clear hW0
  refine (s.mkHas_m _ _ d y2 (kM.rd_ext HR.out X.out) hok).mono ?_
  rintro e w1 ⟨rfl, x1⟩
  replace X := hide (X.out.trans x1)
  replace B0 := hide (B0.out.ext x1)
  replace B1 := hide (B1.out.ext x1)
  clear x1
  have c0_ := B0.out.cell; have c1_ := B1.out.cell; have f1_ := B1.out.free
  cases hm : hasJudge d y2
  · have HM := hide hm
    clear hm
    go_wp2
    refine bodyPost_ret (v := .tuple #[noMarks, .bool false]) (by simp [results, Try.results9, go_sem, c1_, noMarks]) rfl ?_
    have hf : F = (([], []), false) := by rw [← hF.out]; simp [setGradeF, HM.out]
    subst hf
    exact ⟨noMarks, rfl, kM.fr_nil _ _ _, kM.ok_nil, Below.setCell (Below.setCell X.out (by simp) _) (by simp) _⟩
  · obtain ⟨hmk, j, rfl, hj⟩ := hasJudge_ok hm
    have r1 := marksB_ok hmk
    have l1 : n ≤ 14 := by have := r1.1; rw [hn.out] at this; exact this
    have l2 : n' = 3 := by have := r1.2.1; rw [hn'.out] at this; exact this
    have l3 : n' ≤ 3 ∧ 3 ≤ n' := by omega
    clear l2
    have hj9 : j ≤ 9 := by have := r1.2.2.2.1; omega
    have HRW := hide (rows_ok hmk hj)
    have HM := hide hm
    clear hm r1 hmk
    cases hi : inB 0 ((n : Int) - 1) y1
    · go_wp2_with (go_at_call 31; refine (s.l1In_any _ _ _ _).mono ?_; rintro e w3 ⟨rfl, rfl⟩)
      refine bodyPost_ret (v := .tuple #[noMarks, .bool false]) (by simp [results, Try.results9, go_sem, c1_, noMarks]) rfl ?_
      have hf : F = (([], []), false) := by rw [← hF.out]; simp [setGradeF, HM.out, hn.out, hi]
      subst hf
      exact ⟨noMarks, rfl, kM.fr_nil _ _ _, kM.ok_nil, Below.setCell (Below.setCell X.out (by simp) _) (by simp) _⟩
    · obtain ⟨k, rfl, hk⟩ : ∃ k : Nat, y1 = k ∧ k < n := by
        simp only [inB, Bool.and_eq_true, decide_eq_true_eq] at hi
        exact ⟨y1.toNat, by omega, by omega⟩
      have HF : Hid (F = ifMarks (setG d k j y3)) := by show _ = _; rw [← hF.out]; simp [setGradeF, HM.out, hn.out, hi]
      obtain ⟨x, hxk⟩ : ∃ x, Hid (d.1[k]? = some x) := ⟨_, List.getElem?_eq_getElem (by rw [hn.out]; omega)⟩
      have hjx : j < x.length := by first | exact (HRW.out.1 x (List.mem_of_getElem? hxk.out)).1 | exact (HRW.out.2 x (List.mem_of_getElem? hxk.out)).1
      have hj9x : x.length ≤ 9 := by first | exact (HRW.out.1 x (List.mem_of_getElem? hxk.out)).2 | exact (HRW.out.2 x (List.mem_of_getElem? hxk.out)).2
      have hkL : k < d.1.length := by rw [hn.out]; omega
      have hL9 : d.1.length ≤ 14 := by first | (rw [hn.out]; omega) | (rw [hn'.out]; omega)
      go_wp2_with (go_at_call 31; refine (s.l1In_any _ _ _ _).mono ?_; rintro e w3 ⟨rfl, rfl⟩)
      refine (s.mkOwn_any _ _ d (kM.rd_ext HR.out X.out) hok).mono ?_
      rintro e w2 ⟨v2, rfl, o2, x2⟩
      obtain ⟨g, gx, cx, c5, A5', c5', rfl, q1, q2, q3, q4, q5, q6, q6', q7, q8, _, _, q10⟩ := kM.spot1 o2 k x hxk.out j hjx
      have Q10 := hide (q10 y3)
      have z1 : w.heap.size + 1 < w1.heap.size := B1.out.lt
      have z2 := x2.size
      replace X := hide (X.out.trans x2)
      replace B1 := hide (B1.out.ext x2)
      clear o2 x2 q10 B0 c0_ c1_ f1_ hi
      generalize x.getD j 0 = t at *
      generalize x.length = m at *
      go_wp2_with fail
      generalize hV : Value.agg #[.slice (some ⟨g, 0, none⟩) d.1.length c5, .slice A5' d.2.length c5'] = V at *
      obtain ⟨WS, hWS⟩ : ∃ WS, Hid (WS = (w2.setCell ⟨gx, j, none⟩ (.int .i64 y3)).alloc (.cells #[.slice (some ⟨g, 0, none⟩) d.1.length c5, .slice A5' d.2.length c5'] 25)) := ⟨_, rfl⟩
      rw [← hWS.out]
      have xa : Ext (w2.setCell ⟨gx, j, none⟩ (.int .i64 y3)) WS := by rw [hWS.out]; exact Ext.alloc _ _
      have fS := kM.fr_ext Q10.out xa
      have z5 : w2.heap.size ≤ WS.heap.size := by have := xa.size; simpa using this
      have X4 : Ext w (w2.setCell ⟨gx, j, none⟩ (.int .i64 y3)) := Below.setCell X.out (by simp <;> omega) _
      have X5 : Ext w WS := X4.trans xa
      have B5 : Blk WS (w.heap.size + 1) #[.slice none 0 0, .slice none 0 0] 25 := (B1.out.far (by simp; omega) _).ext xa
      have okS := setG_ok (j := j) (z := y3) hxk.out hok
      refine (s.mkIf_any WS _ _ (kM.fr_rd fS) okS).mono ?_
      rintro e w5 ⟨v5, rfl, hv1, hv2, x5⟩
      replace fS := hide (kM.fr_ext fS x5)
      have z6 := x5.size
      replace X5 := hide (X5.trans x5)
      replace B5 := hide (B5.ext x5)
      have OKS := hide okS
      have HV1 := hide hv1
      have HV2 := hide hv2
      clear x5 hv1 hv2 okS xa hWS Q10 X B1 q3 q7 q8 HR
      have c1_ := B5.out.cell; have f1_ := B5.out.free
      cases hb : marksB (setG d k j y3)
      · have e5 := HV2.out hb
        have hf : Hid (F = (([], []), false)) := by show _ = _; rw [HF.out]; simp [ifMarks, hb]
        clear hb
        subst e5
        clear HV1 HV2
        unfold noMarks
        go_wp2
        refine bodyPost_ret (v := .tuple #[noMarks, .bool false]) (by simp [results, Try.results9, go_sem, c1_, noMarks]) rfl ?_
        rw [hf.out]
        exact ⟨noMarks, rfl, kM.fr_nil _ _ _, kM.ok_nil, Below.setCell (Below.setCell X5.out (by simp) _) (by simp) _⟩
      · have e5 := HV1.out hb
        have hf : Hid (F = (setG d k j y3, true)) := by show _ = _; rw [HF.out]; simp [ifMarks, hb]
        clear hb
        subst e5
        clear HV1 HV2
        subst hV
        go_wp2
        refine bodyPost_ret (v := .tuple #[.agg #[.slice (some ⟨g, 0, none⟩) d.1.length c5, .slice A5' d.2.length c5'], .bool true]) (by simp [results, Try.results9, go_sem, c1_]) rfl ?_
        rw [hf.out]
        have s5 := X5.out.size
        have s6 := B5.out.lt
        refine ⟨_, rfl, kM.fr_mono (kM.fr_far (kM.fr_far fS.out _ (by simp; omega) _) _ (by simp; omega) _) (by omega) ?_, OKS.out, Below.setCell (Below.setCell X5.out (by simp) _) (by simp) _⟩
        have := fS.out
        simp
        omega

set_option maxRecDepth 100000 in
set_option maxHeartbeats 4000000 in
theorem i.SetGrade_law (w : World) (v : Value) (d : MD) (y1 y2 y3 : Int) (h : kM.rd w v d) (hok : kM.ok d) (hy1 : InR y1) (hy2 : InR y2) (hy3 : InR y3) :
    Calls Try.prog 8 #[v, .int .i64 y1, .int .i64 y2, .int .i64 y3] w fun e w' => ∃ v0, e = .returned (.tuple #[v0, .bool (setGradeF d y1 y2 y3).2]) ∧ kM.fr w' w.heap.size w'.heap.size v0 (setGradeF d y1 y2 y3).1 ∧ kM.ok (setGradeF d y1 y2 y3).1 ∧ Ext w w' := by
  obtain ⟨A, c, A', c', rfl, h1, h2⟩ := kM.lr h
  have HR := hide h
  have a1 := h1.1; have a2 := h1.2.1; have a3 := h2.1; have a4 := h2.2.1
  clear h h1 h2
  obtain ⟨n, hn⟩ : ∃ n, Hid (d.1.length = n) := ⟨_, rfl⟩
  obtain ⟨n', hn'⟩ : ∃ n', Hid (d.2.length = n') := ⟨_, rfl⟩
  rw [hn.out, hn'.out] at HR ⊢
  rw [hn.out] at a1
  rw [hn'.out] at a3
  obtain ⟨W0, hW0⟩ : ∃ W0, Hid (W0 = (w.alloc (.cells #[.slice A n c, .slice A' n' c'] 25)).alloc (.cells #[.slice none 0 0, .slice none 0 0] 25)) := ⟨_, rfl⟩
  have X : Hid (Ext w W0) := by rw [hW0.out]; exact (Ext.alloc w _).trans (Ext.alloc _ _)
  have B0 : Hid (Blk W0 w.heap.size #[.slice A n c, .slice A' n' c'] 25) := by rw [hW0.out]; exact (Blk.new rfl _ _).alloc _
  have B1 : Hid (Blk W0 (w.heap.size + 1) #[.slice none 0 0, .slice none 0 0] 25) := by rw [hW0.out]; exact Blk.new (by simp) _ _
  obtain ⟨F, hF⟩ : ∃ F, Hid (setGradeF d y1 y2 y3 = F) := ⟨_, rfl⟩
  rw [hF.out]
  go_enter Try.func8, Try.ntmps8
  go_wp2_with fail
  rw [← hW0.out]
  clear hW0
  refine (i.isJudge_m _ _ d y2 (kM.rd_ext HR.out X.out) hok).mono ?_
  rintro e w1 ⟨rfl, x1⟩
  replace X := hide (X.out.trans x1)
  replace B0 := hide (B0.out.ext x1)
  replace B1 := hide (B1.out.ext x1)
  clear x1
  have c0_ := B0.out.cell; have c1_ := B1.out.cell; have f1_ := B1.out.free
  cases hm : hasJudge d y2
  · have HM := hide hm
    clear hm
    go_wp2
    refine bodyPost_ret (v := .tuple #[noMarks, .bool false]) (by simp [results, Try.results8, go_sem, c1_, noMarks]) rfl ?_
    have hf : F = (([], []), false) := by rw [← hF.out]; simp [setGradeF, HM.out]
    subst hf
    exact ⟨noMarks, rfl, kM.fr_nil _ _ _, kM.ok_nil, Below.setCell (Below.setCell X.out (by simp) _) (by simp) _⟩
  · obtain ⟨hmk, j, rfl, hj⟩ := hasJudge_ok hm
    have r1 := marksB_ok hmk
    have l1 : n ≤ 14 := by have := r1.1; rw [hn.out] at this; exact this
    have l2 : n' = 3 := by have := r1.2.1; rw [hn'.out] at this; exact this
    have l3 : n' ≤ 3 ∧ 3 ≤ n' := by omega
    clear l2
    have hj9 : j ≤ 9 := by have := r1.2.2.2.1; omega
    have HRW := hide (rows_ok hmk hj)
    have HM := hide hm
    clear hm r1 hmk
    cases hi : inB 0 ((n : Int) - 1) y1
    · go_wp2_with (go_at_call 29; refine (i.within_any _ _ _ _).mono ?_; rintro e w3 ⟨rfl, rfl⟩)
      refine bodyPost_ret (v := .tuple #[noMarks, .bool false]) (by simp [results, Try.results8, go_sem, c1_, noMarks]) rfl ?_
      have hf : F = (([], []), false) := by rw [← hF.out]; simp [setGradeF, HM.out, hn.out, hi]
      subst hf
      exact ⟨noMarks, rfl, kM.fr_nil _ _ _, kM.ok_nil, Below.setCell (Below.setCell X.out (by simp) _) (by simp) _⟩
    · obtain ⟨k, rfl, hk⟩ : ∃ k : Nat, y1 = k ∧ k < n := by
        simp only [inB, Bool.and_eq_true, decide_eq_true_eq] at hi
        exact ⟨y1.toNat, by omega, by omega⟩
      have HF : Hid (F = ifMarks (setG d k j y3)) := by show _ = _; rw [← hF.out]; simp [setGradeF, HM.out, hn.out, hi]
      obtain ⟨x, hxk⟩ : ∃ x, Hid (d.1[k]? = some x) := ⟨_, List.getElem?_eq_getElem (by rw [hn.out]; omega)⟩
      have hjx : j < x.length := by first | exact (HRW.out.1 x (List.mem_of_getElem? hxk.out)).1 | exact (HRW.out.2 x (List.mem_of_getElem? hxk.out)).1
      have hj9x : x.length ≤ 9 := by first | exact (HRW.out.1 x (List.mem_of_getElem? hxk.out)).2 | exact (HRW.out.2 x (List.mem_of_getElem? hxk.out)).2
      have hkL : k < d.1.length := by rw [hn.out]; omega
      have hL9 : d.1.length ≤ 14 := by first | (rw [hn.out]; omega) | (rw [hn'.out]; omega)
      go_wp2_with (go_at_call 29; refine (i.within_any _ _ _ _).mono ?_; rintro e w3 ⟨rfl, rfl⟩)
      refine (i.copyMarks_any _ _ d (kM.rd_ext HR.out X.out) hok).mono ?_
      rintro e w2 ⟨v2, rfl, o2, x2⟩
      obtain ⟨g, gx, cx, c5, A5', c5', rfl, q1, q2, q3, q4, q5, q6, q6', q7, q8, _, _, q10⟩ := kM.spot1 o2 k x hxk.out j hjx
      have Q10 := hide (q10 y3)
      have z1 : w.heap.size + 1 < w1.heap.size := B1.out.lt
      have z2 := x2.size
      replace X := hide (X.out.trans x2)
      replace B1 := hide (B1.out.ext x2)
      clear o2 x2 q10 B0 c0_ c1_ f1_ hi
      generalize x.getD j 0 = t at *
      generalize x.length = m at *
      go_wp2_with fail
      generalize hV : Value.agg #[.slice (some ⟨g, 0, none⟩) d.1.length c5, .slice A5' d.2.length c5'] = V at *
      obtain ⟨WS, hWS⟩ : ∃ WS, Hid (WS = (w2.setCell ⟨gx, j, none⟩ (.int .i64 y3)).alloc (.cells #[.slice (some ⟨g, 0, none⟩) d.1.length c5, .slice A5' d.2.length c5'] 25)) := ⟨_, rfl⟩
      rw [← hWS.out]
      have xa : Ext (w2.setCell ⟨gx, j, none⟩ (.int .i64 y3)) WS := by rw [hWS.out]; exact Ext.alloc _ _
      have fS := kM.fr_ext Q10.out xa
      have z5 : w2.heap.size ≤ WS.heap.size := by have := xa.size; simpa using this
      have X4 : Ext w (w2.setCell ⟨gx, j, none⟩ (.int .i64 y3)) := Below.setCell X.out (by simp <;> omega) _
      have X5 : Ext w WS := X4.trans xa
      have B5 : Blk WS (w.heap.size + 1) #[.slice none 0 0, .slice none 0 0] 25 := (B1.out.far (by simp; omega) _).ext xa
      have okS := setG_ok (j := j) (z := y3) hxk.out hok
      refine (i.asMarks_any WS _ _ (kM.fr_rd fS) okS).mono ?_
      rintro e w5 ⟨v5, rfl, hv1, hv2, x5⟩
      replace fS := hide (kM.fr_ext fS x5)
      have z6 := x5.size
      replace X5 := hide (X5.trans x5)
      replace B5 := hide (B5.ext x5)
      have OKS := hide okS
      have HV1 := hide hv1
      have HV2 := hide hv2
      clear x5 hv1 hv2 okS xa hWS Q10 X B1 q3 q7 q8 HR
      have c1_ := B5.out.cell; have f1_ := B5.out.free
      cases hb : marksB (setG d k j y3)
      · have e5 := HV2.out hb
        have hf : Hid (F = (([], []), false)) := by show _ = _; rw [HF.out]; simp [ifMarks, hb]
        clear hb
        subst e5
        clear HV1 HV2
        unfold noMarks
        go_wp2
        refine bodyPost_ret (v := .tuple #[noMarks, .bool false]) (by simp [results, Try.results8, go_sem, c1_, noMarks]) rfl ?_
        rw [hf.out]
        exact ⟨noMarks, rfl, kM.fr_nil _ _ _, kM.ok_nil, Below.setCell (Below.setCell X5.out (by simp) _) (by simp) _⟩
      · have e5 := HV1.out hb
        have hf : Hid (F = (setG d k j y3, true)) := by show _ = _; rw [HF.out]; simp [ifMarks, hb]
        clear hb
        subst e5
        clear HV1 HV2
        subst hV
        go_wp2
        refine bodyPost_ret (v := .tuple #[.agg #[.slice (some ⟨g, 0, none⟩) d.1.length c5, .slice A5' d.2.length c5'], .bool true]) (by simp [results, Try.results8, go_sem, c1_]) rfl ?_
        rw [hf.out]
        have s5 := X5.out.size
        have s6 := B5.out.lt
        refine ⟨_, rfl, kM.fr_mono (kM.fr_far (kM.fr_far fS.out _ (by simp; omega) _) _ (by simp; omega) _) (by omega) ?_, OKS.out, Below.setCell (Below.setCell X5.out (by simp) _) (by simp) _⟩
        have := fS.out
        simp
        omega

set_option maxRecDepth 100000 in
set_option maxHeartbeats 4000000 in
theorem s.SetComponent_law (w : World) (v : Value) (d : MD) (y1 y2 y3 : Int) (h : kM.rd w v d) (hok : kM.ok d) (hy1 : InR y1) (hy2 : InR y2) (hy3 : InR y3) :
    Calls Try.prog 12 #[v, .int .i64 y1, .int .i64 y2, .int .i64 y3] w fun e w' => ∃ v0, e = .returned (.tuple #[v0, .bool (setComponentF d y1 y2 y3).2]) ∧ kM.fr w' w.heap.size w'.heap.size v0 (setComponentF d y1 y2 y3).1 ∧ kM.ok (setComponentF d y1 y2 y3).1 ∧ Ext w w' := by
  obtain ⟨A, c, A', c', rfl, h1, h2⟩ := kM.lr h
  have HR := hide h
  have a1 := h1.1; have a2 := h1.2.1; have a3 := h2.1; have a4 := h2.2.1
  clear h h1 h2
  obtain ⟨n, hn⟩ : ∃ n, Hid (d.1.length = n) := ⟨_, rfl⟩
  obtain ⟨n', hn'⟩ : ∃ n', Hid (d.2.length = n') := ⟨_, rfl⟩
  rw [hn.out, hn'.out] at HR ⊢
  rw [hn.out] at a1
  rw [hn'.out] at a3
  obtain ⟨W0, hW0⟩ : ∃ W0, Hid (W0 = (w.alloc (.cells #[.slice A n c, .slice A' n' c'] 25)).alloc (.cells #[.slice none 0 0, .slice none 0 0] 25)) := ⟨_, rfl⟩
  have X : Hid (Ext w W0) := by rw [hW0.out]; exact (Ext.alloc w _).trans (Ext.alloc _ _)
  have B0 : Hid (Blk W0 w.heap.size #[.slice A n c, .slice A' n' c'] 25) := by rw [hW0.out]; exact (Blk.new rfl _ _).alloc _
  have B1 : Hid (Blk W0 (w.heap.size + 1) #[.slice none 0 0, .slice none 0 0] 25) := by rw [hW0.out]; exact Blk.new (by simp) _ _
  obtain ⟨F, hF⟩ : ∃ F, Hid (setComponentF d y1 y2 y3 = F) := ⟨_, rfl⟩
  rw [hF.out]
  go_enter Try.func12, Try.ntmps12
  go_wp2_with fail
  rw [← hW0.out]
  clear hW0
  refine (s.mkHas_m _ _ d y2 (kM.rd_ext HR.out X.out) hok).mono ?_
  rintro e w1 ⟨rfl, x1⟩
  replace X := hide (X.out.trans x1)
  replace B0 := hide (B0.out.ext x1)
  replace B1 := hide (B1.out.ext x1)
  clear x1
  have c0_ := B0.out.cell; have c1_ := B1.out.cell; have f1_ := B1.out.free
  cases hm : hasJudge d y2
  · have HM := hide hm
    clear hm
    go_wp2
    refine bodyPost_ret (v := .tuple #[noMarks, .bool false]) (by simp [results, Try.results12, go_sem, c1_, noMarks]) rfl ?_
    have hf : F = (([], []), false) := by rw [← hF.out]; simp [setComponentF, HM.out]
    subst hf
    exact ⟨noMarks, rfl, kM.fr_nil _ _ _, kM.ok_nil, Below.setCell (Below.setCell X.out (by simp) _) (by simp) _⟩
  · obtain ⟨hmk, j, rfl, hj⟩ := hasJudge_ok hm
    have r1 := marksB_ok hmk
    have l1 : n ≤ 14 := by have := r1.1; rw [hn.out] at this; exact this
    have l2 : n' = 3 := by have := r1.2.1; rw [hn'.out] at this; exact this
    have l3 : n' ≤ 3 ∧ 3 ≤ n' := by omega
    clear l2
    have hj9 : j ≤ 9 := by have := r1.2.2.2.1; omega
    have HRW := hide (rows_ok hmk hj)
    have HM := hide hm
    clear hm r1 hmk
    cases hi : inB 0 (2) y1
    · go_wp2_with (go_at_call 31; refine (s.l1In_any _ _ _ _).mono ?_; rintro e w3 ⟨rfl, rfl⟩)
      refine bodyPost_ret (v := .tuple #[noMarks, .bool false]) (by simp [results, Try.results12, go_sem, c1_, noMarks]) rfl ?_
      have hf : F = (([], []), false) := by rw [← hF.out]; simp [setComponentF, HM.out, hi]
      subst hf
      exact ⟨noMarks, rfl, kM.fr_nil _ _ _, kM.ok_nil, Below.setCell (Below.setCell X.out (by simp) _) (by simp) _⟩
    · obtain ⟨k, rfl, hk⟩ : ∃ k : Nat, y1 = k ∧ k < n' := by
        simp only [inB, Bool.and_eq_true, decide_eq_true_eq] at hi
        exact ⟨y1.toNat, by omega, by omega⟩
      have HF : Hid (F = ifMarks (setC d k j y3)) := by show _ = _; rw [← hF.out]; simp [setComponentF, HM.out, hi]
      obtain ⟨x, hxk⟩ : ∃ x, Hid (d.2[k]? = some x) := ⟨_, List.getElem?_eq_getElem (by rw [hn'.out]; omega)⟩
      have hjx : j < x.length := by first | exact (HRW.out.1 x (List.mem_of_getElem? hxk.out)).1 | exact (HRW.out.2 x (List.mem_of_getElem? hxk.out)).1
      have hj9x : x.length ≤ 9 := by first | exact (HRW.out.1 x (List.mem_of_getElem? hxk.out)).2 | exact (HRW.out.2 x (List.mem_of_getElem? hxk.out)).2
      have hkL : k < d.2.length := by rw [hn'.out]; omega
      have hL9 : d.2.length ≤ 14 := by first | (rw [hn.out]; omega) | (rw [hn'.out]; omega)
      go_wp2_with (go_at_call 31; refine (s.l1In_any _ _ _ _).mono ?_; rintro e w3 ⟨rfl, rfl⟩)
      refine (s.mkOwn_any _ _ d (kM.rd_ext HR.out X.out) hok).mono ?_
      rintro e w2 ⟨v2, rfl, o2, x2⟩
      obtain ⟨g, gx, cx, c5, A5', c5', rfl, q1, q2, q3, q4, q5, q6, q6', q7, q8, _, _, q10⟩ := kM.spot2 o2 k x hxk.out j hjx
      have Q10 := hide (q10 y3)
      have z1 : w.heap.size + 1 < w1.heap.size := B1.out.lt
      have z2 := x2.size
      replace X := hide (X.out.trans x2)
      replace B1 := hide (B1.out.ext x2)
      clear o2 x2 q10 B0 c0_ c1_ f1_ hi
      generalize x.getD j 0 = t at *
      generalize x.length = m at *
      go_wp2_with fail
      generalize hV : Value.agg #[.slice A5' d.1.length c5', .slice (some ⟨g, 0, none⟩) d.2.length c5] = V at *
      obtain ⟨WS, hWS⟩ : ∃ WS, Hid (WS = (w2.setCell ⟨gx, j, none⟩ (.int .i64 y3)).alloc (.cells #[.slice A5' d.1.length c5', .slice (some ⟨g, 0, none⟩) d.2.length c5] 25)) := ⟨_, rfl⟩
      rw [← hWS.out]
      have xa : Ext (w2.setCell ⟨gx, j, none⟩ (.int .i64 y3)) WS := by rw [hWS.out]; exact Ext.alloc _ _
      have fS := kM.fr_ext Q10.out xa
      have z5 : w2.heap.size ≤ WS.heap.size := by have := xa.size; simpa using this
      have X4 : Ext w (w2.setCell ⟨gx, j, none⟩ (.int .i64 y3)) := Below.setCell X.out (by simp <;> omega) _
      have X5 : Ext w WS := X4.trans xa
      have B5 : Blk WS (w.heap.size + 1) #[.slice none 0 0, .slice none 0 0] 25 := (B1.out.far (by simp; omega) _).ext xa
      have okS := setC_ok (j := j) (z := y3) hxk.out hok
      refine (s.mkIf_any WS _ _ (kM.fr_rd fS) okS).mono ?_
      rintro e w5 ⟨v5, rfl, hv1, hv2, x5⟩
      replace fS := hide (kM.fr_ext fS x5)
      have z6 := x5.size
      replace X5 := hide (X5.trans x5)
      replace B5 := hide (B5.ext x5)
      have OKS := hide okS
      have HV1 := hide hv1
      have HV2 := hide hv2
      clear x5 hv1 hv2 okS xa hWS Q10 X B1 q3 q7 q8 HR
      have c1_ := B5.out.cell; have f1_ := B5.out.free
      cases hb : marksB (setC d k j y3)
      · have e5 := HV2.out hb
        have hf : Hid (F = (([], []), false)) := by show _ = _; rw [HF.out]; simp [ifMarks, hb]
        clear hb
        subst e5
        clear HV1 HV2
        unfold noMarks
        go_wp2
        refine bodyPost_ret (v := .tuple #[noMarks, .bool false]) (by simp [results, Try.results12, go_sem, c1_, noMarks]) rfl ?_
        rw [hf.out]
        exact ⟨noMarks, rfl, kM.fr_nil _ _ _, kM.ok_nil, Below.setCell (Below.setCell X5.out (by simp) _) (by simp) _⟩
      · have e5 := HV1.out hb
        have hf : Hid (F = (setC d k j y3, true)) := by show _ = _; rw [HF.out]; simp [ifMarks, hb]
        clear hb
        subst e5
        clear HV1 HV2
        subst hV
        go_wp2
        refine bodyPost_ret (v := .tuple #[.agg #[.slice A5' d.1.length c5', .slice (some ⟨g, 0, none⟩) d.2.length c5], .bool true]) (by simp [results, Try.results12, go_sem, c1_]) rfl ?_
        rw [hf.out]
        have s5 := X5.out.size
        have s6 := B5.out.lt
        refine ⟨_, rfl, kM.fr_mono (kM.fr_far (kM.fr_far fS.out _ (by simp; omega) _) _ (by simp; omega) _) (by omega) ?_, OKS.out, Below.setCell (Below.setCell X5.out (by simp) _) (by simp) _⟩
        have := fS.out
        simp
        omega

set_option maxRecDepth 100000 in
set_option maxHeartbeats 4000000 in
theorem i.SetComponent_law (w : World) (v : Value) (d : MD) (y1 y2 y3 : Int) (h : kM.rd w v d) (hok : kM.ok d) (hy1 : InR y1) (hy2 : InR y2) (hy3 : InR y3) :
    Calls Try.prog 11 #[v, .int .i64 y1, .int .i64 y2, .int .i64 y3] w fun e w' => ∃ v0, e = .returned (.tuple #[v0, .bool (setComponentF d y1 y2 y3).2]) ∧ kM.fr w' w.heap.size w'.heap.size v0 (setComponentF d y1 y2 y3).1 ∧ kM.ok (setComponentF d y1 y2 y3).1 ∧ Ext w w' := by
  obtain ⟨A, c, A', c', rfl, h1, h2⟩ := kM.lr h
  have HR := hide h
  have a1 := h1.1; have a2 := h1.2.1; have a3 := h2.1; have a4 := h2.2.1
  clear h h1 h2
  obtain ⟨n, hn⟩ : ∃ n, Hid (d.1.length = n) := ⟨_, rfl⟩
  obtain ⟨n', hn'⟩ : ∃ n', Hid (d.2.length = n') := ⟨_, rfl⟩
  rw [hn.out, hn'.out] at HR ⊢
  rw [hn.out] at a1
  rw [hn'.out] at a3
  obtain ⟨W0, hW0⟩ : ∃ W0, Hid (W0 = (w.alloc (.cells #[.slice A n c, .slice A' n' c'] 25)).alloc (.cells #[.slice none 0 0, .slice none 0 0] 25)) := ⟨_, rfl⟩
  have X : Hid (Ext w W0) := by rw [hW0.out]; exact (Ext.alloc w _).trans (Ext.alloc _ _)
  have B0 : Hid (Blk W0 w.heap.size #[.slice A n c, .slice A' n' c'] 25) := by rw [hW0.out]; exact (Blk.new rfl _ _).alloc _
  have B1 : Hid (Blk W0 (w.heap.size + 1) #[.slice none 0 0, .slice none 0 0] 25) := by rw [hW0.out]; exact Blk.new (by simp) _ _
  obtain ⟨F, hF⟩ : ∃ F, Hid (setComponentF d y1 y2 y3 = F) := ⟨_, rfl⟩
  rw [hF.out]
  go_enter Try.func11, Try.ntmps11
  go_wp2_with fail
  rw [← hW0.out]
  clear hW0
  refine (i.isJudge_m _ _ d y2 (kM.rd_ext HR.out X.out) hok).mono ?_
  rintro e w1 ⟨rfl, x1⟩
  replace X := hide (X.out.trans x1)
  replace B0 := hide (B0.out.ext x1)
  replace B1 := hide (B1.out.ext x1)
  clear x1
  have c0_ := B0.out.cell; have c1_ := B1.out.cell; have f1_ := B1.out.free
  cases hm : hasJudge d y2
  · have HM := hide hm
    clear hm
    go_wp2
    refine bodyPost_ret (v := .tuple #[noMarks, .bool false]) (by simp [results, Try.results11, go_sem, c1_, noMarks]) rfl ?_
    have hf : F = (([], []), false) := by rw [← hF.out]; simp [setComponentF, HM.out]
    subst hf
    exact ⟨noMarks, rfl, kM.fr_nil _ _ _, kM.ok_nil, Below.setCell (Below.setCell X.out (by simp) _) (by simp) _⟩
  · obtain ⟨hmk, j, rfl, hj⟩ := hasJudge_ok hm
    have r1 := marksB_ok hmk
    have l1 : n ≤ 14 := by have := r1.1; rw [hn.out] at this; exact this
    have l2 : n' = 3 := by have := r1.2.1; rw [hn'.out] at this; exact this
    have l3 : n' ≤ 3 ∧ 3 ≤ n' := by omega
    clear l2
    have hj9 : j ≤ 9 := by have := r1.2.2.2.1; omega
    have HRW := hide (rows_ok hmk hj)
    have HM := hide hm
    clear hm r1 hmk
    cases hi : inB 0 (2) y1
    · go_wp2_with (go_at_call 29; refine (i.within_any _ _ _ _).mono ?_; rintro e w3 ⟨rfl, rfl⟩)
      refine bodyPost_ret (v := .tuple #[noMarks, .bool false]) (by simp [results, Try.results11, go_sem, c1_, noMarks]) rfl ?_
      have hf : F = (([], []), false) := by rw [← hF.out]; simp [setComponentF, HM.out, hi]
      subst hf
      exact ⟨noMarks, rfl, kM.fr_nil _ _ _, kM.ok_nil, Below.setCell (Below.setCell X.out (by simp) _) (by simp) _⟩
    · obtain ⟨k, rfl, hk⟩ : ∃ k : Nat, y1 = k ∧ k < n' := by
        simp only [inB, Bool.and_eq_true, decide_eq_true_eq] at hi
        exact ⟨y1.toNat, by omega, by omega⟩
      have HF : Hid (F = ifMarks (setC d k j y3)) := by show _ = _; rw [← hF.out]; simp [setComponentF, HM.out, hi]
      obtain ⟨x, hxk⟩ : ∃ x, Hid (d.2[k]? = some x) := ⟨_, List.getElem?_eq_getElem (by rw [hn'.out]; omega)⟩
      have hjx : j < x.length := by first | exact (HRW.out.1 x (List.mem_of_getElem? hxk.out)).1 | exact (HRW.out.2 x (List.mem_of_getElem? hxk.out)).1
      have hj9x : x.length ≤ 9 := by first | exact (HRW.out.1 x (List.mem_of_getElem? hxk.out)).2 | exact (HRW.out.2 x (List.mem_of_getElem? hxk.out)).2
      have hkL : k < d.2.length := by rw [hn'.out]; omega
      have hL9 : d.2.length ≤ 14 := by first | (rw [hn.out]; omega) | (rw [hn'.out]; omega)
      go_wp2_with (go_at_call 29; refine (i.within_any _ _ _ _).mono ?_; rintro e w3 ⟨rfl, rfl⟩)
      refine (i.copyMarks_any _ _ d (kM.rd_ext HR.out X.out) hok).mono ?_
      rintro e w2 ⟨v2, rfl, o2, x2⟩
      obtain ⟨g, gx, cx, c5, A5', c5', rfl, q1, q2, q3, q4, q5, q6, q6', q7, q8, _, _, q10⟩ := kM.spot2 o2 k x hxk.out j hjx
      have Q10 := hide (q10 y3)
      have z1 : w.heap.size + 1 < w1.heap.size := B1.out.lt
      have z2 := x2.size
      replace X := hide (X.out.trans x2)
      replace B1 := hide (B1.out.ext x2)
      clear o2 x2 q10 B0 c0_ c1_ f1_ hi
      generalize x.getD j 0 = t at *
      generalize x.length = m at *
      go_wp2_with fail
      generalize hV : Value.agg #[.slice A5' d.1.length c5', .slice (some ⟨g, 0, none⟩) d.2.length c5] = V at *
      obtain ⟨WS, hWS⟩ : ∃ WS, Hid (WS = (w2.setCell ⟨gx, j, none⟩ (.int .i64 y3)).alloc (.cells #[.slice A5' d.1.length c5', .slice (some ⟨g, 0, none⟩) d.2.length c5] 25)) := ⟨_, rfl⟩
      rw [← hWS.out]
      have xa : Ext (w2.setCell ⟨gx, j, none⟩ (.int .i64 y3)) WS := by rw [hWS.out]; exact Ext.alloc _ _
      have fS := kM.fr_ext Q10.out xa
      have z5 : w2.heap.size ≤ WS.heap.size := by have := xa.size; simpa using this
      have X4 : Ext w (w2.setCell ⟨gx, j, none⟩ (.int .i64 y3)) := Below.setCell X.out (by simp <;> omega) _
      have X5 : Ext w WS := X4.trans xa
      have B5 : Blk WS (w.heap.size + 1) #[.slice none 0 0, .slice none 0 0] 25 := (B1.out.far (by simp; omega) _).ext xa
      have okS := setC_ok (j := j) (z := y3) hxk.out hok
      refine (i.asMarks_any WS _ _ (kM.fr_rd fS) okS).mono ?_
      rintro e w5 ⟨v5, rfl, hv1, hv2, x5⟩
      replace fS := hide (kM.fr_ext fS x5)
      have z6 := x5.size
      replace X5 := hide (X5.trans x5)
      replace B5 := hide (B5.ext x5)
      have OKS := hide okS
      have HV1 := hide hv1
      have HV2 := hide hv2
      clear x5 hv1 hv2 okS xa hWS Q10 X B1 q3 q7 q8 HR
      have c1_ := B5.out.cell; have f1_ := B5.out.free
      cases hb : marksB (setC d k j y3)
      · have e5 := HV2.out hb
        have hf : Hid (F = (([], []), false)) := by show _ = _; rw [HF.out]; simp [ifMarks, hb]
        clear hb
        subst e5
        clear HV1 HV2
        unfold noMarks
        go_wp2
        refine bodyPost_ret (v := .tuple #[noMarks, .bool false]) (by simp [results, Try.results11, go_sem, c1_, noMarks]) rfl ?_
        rw [hf.out]
        exact ⟨noMarks, rfl, kM.fr_nil _ _ _, kM.ok_nil, Below.setCell (Below.setCell X5.out (by simp) _) (by simp) _⟩
      · have e5 := HV1.out hb
        have hf : Hid (F = (setC d k j y3, true)) := by show _ = _; rw [HF.out]; simp [ifMarks, hb]
        clear hb
        subst e5
        clear HV1 HV2
        subst hV
        go_wp2
        refine bodyPost_ret (v := .tuple #[.agg #[.slice A5' d.1.length c5', .slice (some ⟨g, 0, none⟩) d.2.length c5], .bool true]) (by simp [results, Try.results11, go_sem, c1_]) rfl ?_
        rw [hf.out]
        have s5 := X5.out.size
        have s6 := B5.out.lt
        refine ⟨_, rfl, kM.fr_mono (kM.fr_far (kM.fr_far fS.out _ (by simp; omega) _) _ (by simp; omega) _) (by omega) ?_, OKS.out, Below.setCell (Below.setCell X5.out (by simp) _) (by simp) _⟩
        have := fS.out
        simp
        omega
end Go.Proofs.Ytifdpmpconjhmaa
