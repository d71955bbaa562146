/- Two judges changed over: the program's function. -/
import Derived.Test.YtifdpmpconjhmaaMU
namespace Go.Proofs.Ytifdpmpconjhmaa
open Go.RowKit Go.Sort
set_option linter.unusedVariables false

set_option maxRecDepth 100000 in
set_option maxHeartbeats 4000000 in
theorem i.SwapJudges_law (w : World) (v : Value) (d : MD) (ya yb : Int) (h : kM.rd w v d) (hok : kM.ok d) (hya : InR ya) (hyb : InR yb) :
    Calls Try.prog 5 #[v, .int .i64 ya, .int .i64 yb] w fun e w' => ∃ v0, e = .returned (.tuple #[v0, .bool (swapJudgesF d ya yb).2]) ∧ kM.fr w' w.heap.size w'.heap.size v0 (swapJudgesF d ya yb).1 ∧ kM.ok (swapJudgesF d ya yb).1 ∧ Ext w w' := by
  obtain ⟨A, c, A', c', rfl, h1, h2⟩ := kM.lr h
  have HR := hide h
  have a1 := h1.1; have a2 := h1.2.1; have a3 := h2.1; have a4 := h2.2.1
  clear h h1 h2
  obtain ⟨n, hn⟩ : ∃ n, Hid (d.1.length = n) := ⟨_, rfl⟩
  obtain ⟨n', hn'⟩ : ∃ n', Hid (d.2.length = n') := ⟨_, rfl⟩
  rw [hn.out, hn'.out] at HR ⊢
  rw [hn.out] at a1
  rw [hn'.out] at a3
  obtain ⟨W0, hW0⟩ : ∃ W0, Hid (W0 = (w.alloc (.cells #[.slice A n c, .slice A' n' c'] 25)).alloc (.cells #[.slice none 0 0, .slice none 0 0] 25)) := ⟨_, rfl⟩
  have X : Hid (Ext w W0) := by rw [hW0.out]; exact (Ext.alloc w _).trans (Ext.alloc _ _)
  have B0 : Hid (Blk W0 w.heap.size #[.slice A n c, .slice A' n' c'] 25) := by rw [hW0.out]; exact (Blk.new rfl _ _).alloc _
  have B1 : Hid (Blk W0 (w.heap.size + 1) #[.slice none 0 0, .slice none 0 0] 25) := by rw [hW0.out]; exact Blk.new (by simp) _ _
  obtain ⟨F, hF⟩ : ∃ F, Hid (swapJudgesF d ya yb = F) := ⟨_, rfl⟩
  rw [hF.out]
  go_enter Try.func5, Try.ntmps5
  go_wp2_with fail
  rw [← hW0.out]
  clear hW0
  refine (i.isJudge_m _ _ d ya (kM.rd_ext HR.out X.out) hok).mono ?_
  rintro e w9 ⟨rfl, x1⟩
  replace X := hide (X.out.trans x1)
  replace B0 := hide (B0.out.ext x1)
  replace B1 := hide (B1.out.ext x1)
  clear x1
  have c0_ := B0.out.cell; have c1_ := B1.out.cell; have f1_ := B1.out.free
  cases hma : hasJudge d ya
  · have HM := hide hma
    clear hma
    go_wp2
    refine bodyPost_ret (v := .tuple #[noMarks, .bool false]) (by simp [results, Try.results5, go_sem, c1_, noMarks]) rfl ?_
    have hf : F = (([], []), false) := by rw [← hF.out]; simp [swapJudgesF, HM.out]
    subst hf
    exact ⟨noMarks, rfl, kM.fr_nil _ _ _, kM.ok_nil, Below.setCell (Below.setCell X.out (by simp) _) (by simp) _⟩
  have HMA := hide hma
  clear hma
  go_wp2_with fail
  refine (i.isJudge_m _ _ d yb (kM.rd_ext HR.out X.out) hok).mono ?_
  rintro e w1 ⟨rfl, x1⟩
  replace X := hide (X.out.trans x1)
  replace B0 := hide (B0.out.ext x1)
  replace B1 := hide (B1.out.ext x1)
  clear x1 c0_ c1_ f1_
  have c0_ := B0.out.cell; have c1_ := B1.out.cell; have f1_ := B1.out.free
  cases hmb : hasJudge d yb
  · have HM := hide hmb
    clear hmb
    go_wp2
    refine bodyPost_ret (v := .tuple #[noMarks, .bool false]) (by simp [results, Try.results5, go_sem, c1_, noMarks]) rfl ?_
    have hf : F = (([], []), false) := by rw [← hF.out]; simp [swapJudgesF, HM.out]
    subst hf
    exact ⟨noMarks, rfl, kM.fr_nil _ _ _, kM.ok_nil, Below.setCell (Below.setCell X.out (by simp) _) (by simp) _⟩
  obtain ⟨hmk, a, rfl, ha⟩ := hasJudge_ok HMA.out
  obtain ⟨_, b, rfl, hb⟩ := hasJudge_ok hmb
  have r1 := marksB_ok hmk
  have l1 : n ≤ 14 := by have := r1.1; rw [hn.out] at this; exact this
  have l3 : n' ≤ 3 ∧ 3 ≤ n' := by have := r1.2.1; rw [hn'.out] at this; omega
  have HRA := hide (rows_ok hmk ha)
  have HRB := hide (rows_ok hmk hb)
  have HF : Hid (F = ((d.1.map (swapJ a b), d.2.map (swapJ a b)), true)) := by show _ = _; rw [← hF.out]; simp [swapJudgesF, HMA.out, hmb]
  have OKS := hide (swapJ_ok a b hok)
  clear hmb r1 hmk hF ha hb HMA
  go_wp2_with fail
  refine (i.copyMarks_any _ _ d (kM.rd_ext HR.out X.out) hok).mono ?_
  rintro e w2 ⟨v2, rfl, o2, x2⟩
  obtain ⟨A5, c5, A6, c6, fp, fp', rfl, p1, p2, f1, f2, fd⟩ := kM.open o2
  rw [hn.out, hn'.out]
  have z1 : w.heap.size + 1 < w1.heap.size := B1.out.lt
  have z2 := x2.size
  replace X := hide (X.out.trans x2)
  replace B1 := hide (B1.out.ext x2)
  have P1 := hide p1
  have P2 := hide p2
  have F1 := hide f1
  have F2 := hide f2
  have FD := hide fd
  have cp1 := p1.cap; have cp2 := p2.cap
  rw [hn.out] at cp1
  rw [hn'.out] at cp2
  clear o2 x2 p1 p2 f1 f2 fd B0 c0_ c1_ f1_ HR
  obtain ⟨W3, hW3⟩ : ∃ W3, Hid (W3 = w2.alloc (.cells #[.slice A5 n c5, .slice A6 n' c6] 25)) := ⟨_, rfl⟩
  have xa : Ext w2 W3 := by rw [hW3.out]; exact Ext.alloc _ _
  have B2 : Hid (Blk W3 w2.heap.size #[.slice A5 n c5, .slice A6 n' c6] 25) := by rw [hW3.out]; exact Blk.new rfl _ _
  have cBn : ∀ i, (w2.alloc (.cells #[.slice A5 n c5, .slice A6 n' c6] 25)).cell? ⟨w2.heap.size, i, none⟩ = #[Value.slice A5 n c5, .slice A6 n' c6][i]? := by rw [← hW3.out]; exact B2.out.cell
  obtain ⟨hsG, hG⟩ := P1.out.heads
  obtain ⟨hsC, hC⟩ := P2.out.heads
  rw [hn.out] at hG
  rw [hn'.out] at hC
  have OG := hide (hG.1.below xa (Nat.le_refl _))
  have OC := hide (hC.1.below xa (Nat.le_refl _))
  have U1 := hide hG.2
  have U2 := hide hC.2
  clear hG hC
  replace X := hide (X.out.trans xa)
  replace B1 := hide (B1.out.ext xa)
  replace P1 := hide (P1.out.ext xa)
  replace P2 := hide (P2.out.ext xa)
  have s3 : W3.heap.size = w2.heap.size + 1 := by rw [hW3.out]; simp
  have S3 := hide s3
  clear s3
  go_wp2
  rw [← hW3.out]
  clear hW3 xa cBn
  have cB := B2.out.cell
  have cBa := (B2.out.alloc (.cells #[] 36)).cell
  have b1 : (0 + n) * 24 ≤ 140737488355328 := by omega
  have b2 : 0 + n ≤ 4611686018427387904 := by omega
  have b3 : (n + n') * 24 ≤ 140737488355328 := by omega
  have b4 : n + n' ≤ 4611686018427387904 := by omega
  go_region_law (first
    | (refine step_append_sl (by rfl) (.tmp 27) (.tmp 29) (by rfl) elem_row (by rfl) (by rfl) (lo := W3.heap.size) O7.out SC7.out U2.out b3 b4 X7.out.size ?_; intro A8 c8 w8 hap8; have X8 := hide (hap8.ext X7.out O7.out.fromLo); have O8 := hide hap8.own; clear hap8)
    | (refine step_append_sl (by rfl) (.tmp 24) (.tmp 26) (by rfl) elem_row (by rfl) (by rfl) (lo := W3.heap.size) (Own.empty W3 36 (Nat.le_refl _)).drew ((OG.out.sl.alloc (Nat.le_refl _) (.cells #[] 36)).drew) U1.out b1 b2 (by simp) ?_; intro A7 c7 w7 hap7; simp only [Nat.zero_add, List.nil_append] at hap7; have X7 : Hid (Ext W3 w7) := hap7.ext ((Ext.alloc W3 _).trans (Ext.drew _)) (fun p hp => by cases hp; simp); have O7 := hide hap7.own; have SC7 := hide (OC.out.sl.below X7.out); have cB7 := (B2.out.ext X7.out).cell; clear hap7))
  all_goals
    obtain ⟨g8, rfl, g8lo, g8lt, g8c⟩ := O8.out.pos (by omega)
    have c8m := O8.out.capm
    replace X := hide (X.out.trans X8.out)
    replace B1 := hide (B1.out.ext X8.out)
    replace B2 := hide (B2.out.ext X8.out)
    replace P1 := hide (P1.out.ext X8.out)
    replace P2 := hide (P2.out.ext X8.out)
    replace OG := hide (OG.out.below X8.out (Nat.le_refl _))
    replace OC := hide (OC.out.below X8.out (Nat.le_refl _))
    have G8 : w2.heap.size < g8 := by have := S3.out; omega
    clear X8 g8lo g8lt cB cBa
    try clear cB7 X7 O7 SC7
    have hgl : hsG.length = n := OG.out.len
    have HGL := hide hgl
    clear hgl
    go_simp
    go_wp2
    go_loopw [32] (fun i wr => ∃ (k : Nat), k ≤ n + n' ∧ i = .int .i64 k ∧ LO kdL 36 wr A5 c5 (mapN (swapJ a b) d.1 k) fp ∧ LO kdL 36 wr A6 c6 (mapN (swapJ a b) d.2 (k - n)) fp' ∧ Own 36 wr 0 (some ⟨g8, 0, none⟩) (n + n') c8 (hsG ++ hsC) ∧ Own 36 wr 0 A5 n c5 hsG ∧ Own 36 wr 0 A6 n' c6 hsC ∧ Blk wr w2.heap.size #[.slice A5 n c5, .slice A6 n' c6] 25 ∧ Blk wr (w.heap.size + 1) #[.slice none 0 0, .slice none 0 0] 25 ∧ Ext w wr) (fun i _ => n + n' - (intOf i).toNat)
    case atStart => exact ⟨0, Nat.zero_le _, rfl, by rw [mapN_zero]; exact P1.out, by rw [Nat.zero_sub, mapN_zero]; exact P2.out, O8.out.lower (Nat.zero_le _), OG.out, OC.out, B2.out, B1.out, X.out⟩
    case round =>
      obtain ⟨k, hk, rfl, p1, p2, o8, og, oc, b2, b1', hx⟩ := hrel
      clear P1 P2 B1 B2 X O8 OG OC
      have P1 := hide p1
      have P2 := hide p2
      have O8 := hide o8
      have OG := hide og
      have OC := hide oc
      have B1 := hide b1'
      have B2 := hide b2
      have X := hide hx
      clear p1 p2 o8 og oc b2 b1' hx
      by_cases hlt : k < n
      · have hki : (k : Int) < n + n' := by omega
        obtain ⟨x, hxk⟩ : ∃ x, Hid (d.1[k]? = some x) := ⟨_, List.getElem?_eq_getElem (by rw [hn.out]; omega)⟩
        have hxd : Hid ((mapN (swapJ a b) d.1 (k))[k]? = some x) := by show _ = _; rw [mapN_at _ _ _ (by rw [hn.out]; omega)]; exact hxk.out
        obtain ⟨hja, hx9⟩ := HRA.out.1 x (List.mem_of_getElem? hxk.out)
        have hjb := (HRB.out.1 x (List.mem_of_getElem? hxk.out)).1
        obtain ⟨g, gx, cx, rfl, gm, gxm, gne, gc, q1, q2, ca, cb, gfr, gs⟩ := P1.out.swap (k) x hxd.out a b hja hjb
        obtain ⟨t, ct, ft, hl⟩ := gs (x.getD b 0) (x.getD a 0)
        have HL : Hid (LO kdL 36 ((wr.setCell ⟨gx, a, none⟩ (.int .i64 (x.getD b 0))).setCell ⟨gx, b, none⟩ (.int .i64 (x.getD a 0))) (some ⟨g, 0, none⟩) c5 (mapN (swapJ a b) d.1 (k + 1)) fp) := by rw [← mapN_set _ _ _ x hxk.out]; exact hl
        have gF := F1.out gx gxm
        have GNE : Hid (∀ i, i ≤ w.heap.size + 1 ∨ w2.heap.size ≤ i ∨ i ∈ fp' → i ≠ gx) := fun i hi e => by
          rcases hi with h | h | h
          · omega
          · omega
          · exact FD.out gx gxm (e ▸ h)
        clear gs hl
        have NB : Hid (∀ p : Addr, A6 = some p → p.block ∈ fp') := fun p hp => by obtain ⟨css, fps, _, _, _, _, e, _⟩ := P2.out; rw [e, hp]; simp
        have HH : hsG[k]? = some (.slice (some ⟨gx, 0, none⟩) x.length cx) := (OG.out.cell k hlt).symm.trans gc
        have g8k : wr.cell? ⟨g8, k, none⟩ = some (.slice (some ⟨gx, 0, none⟩) x.length cx) := by rw [O8.out.cell k (by omega), List.getElem?_append_left (by rw [HGL.out]; exact hlt), HH]
        replace HL : Hid (LO kdL 36 ((wr.setCell ⟨gx, a, none⟩ (.int .i64 (x.getD b 0))).setCell ⟨gx, b, none⟩ (.int .i64 (x.getD a 0))) (some ⟨g, 0, none⟩) c5 (mapN (swapJ a b) d.1 (k + 1)) fp) := HL
        have EK : Hid (k + 1 - n = k - n) := by show _ = _; omega
        have HLO : Hid (mapN (swapJ a b) d.2 (k + 1 - n) = mapN (swapJ a b) d.2 (k - n)) := by show _ = _; rw [EK.out]
        clear HH EK
        generalize x.getD a 0 = xa at *
        generalize x.getD b 0 = xb at *
        generalize x.length = m at *
        go_wp2
        go_region
        all_goals
          go_wp2
          go_roundw
          case rel =>
            have y := GNE.out
            have y8 : ∀ p : Addr, some (⟨g8, 0, none⟩ : Addr) = some p → p.block ≠ gx := fun p hp => by cases hp; exact y _ (.inr (.inl (by show w2.heap.size ≤ g8; omega)))
            have yM : ∀ p : Addr, some (⟨g, 0, none⟩ : Addr) = some p → p.block ≠ gx := fun p hp => by cases hp; exact Ne.symm gne
            exact ⟨k + 1, by omega, by go_num, HL.out, by rw [HLO.out]; exact (((P2.out.keep (fun i hi => Below.heap_setCell _ _ _ _ (y i (.inr (.inr hi))))).keep (fun i hi => Below.heap_setCell _ _ _ _ (y i (.inr (.inr hi)))))), ((O8.out.far y8 _).far y8 _), ((OG.out.far yM _).far yM _), ((OC.out.far (fun p hp => y _ (.inr (.inr (NB.out p hp)))) _).far (fun p hp => y _ (.inr (.inr (NB.out p hp)))) _), ((B2.out.far (y _ (.inr (.inl (Nat.le_refl _)))) _).far (y _ (.inr (.inl (Nat.le_refl _)))) _), ((B1.out.far (y _ (.inl (Nat.le_refl _))) _).far (y _ (.inl (Nat.le_refl _))) _), Below.setCell (Below.setCell (X.out.trans (Ext.drew _)) (by show w.heap.size ≤ gx; omega) _) (by show w.heap.size ≤ gx; omega) _⟩
          case measure => simp [intOf]; omega
      by_cases hlt2 : k < n + n'
      · obtain ⟨e0, hek⟩ : ∃ e0, Hid (k = n + e0) := ⟨k - n, by show _ = _; omega⟩
        have hki : (k : Int) < n + n' := by omega
        have he0 : e0 < n' := by have := hek.out; omega
        have hk0 : k - n = e0 := by have := hek.out; omega
        rw [hk0] at P2
        clear hk0
        obtain ⟨x, hxk⟩ : ∃ x, Hid (d.2[e0]? = some x) := ⟨_, List.getElem?_eq_getElem (by rw [hn'.out]; omega)⟩
        have hxd : Hid ((mapN (swapJ a b) d.2 (e0))[e0]? = some x) := by show _ = _; rw [mapN_at _ _ _ (by rw [hn'.out]; omega)]; exact hxk.out
        obtain ⟨hja, hx9⟩ := HRA.out.2 x (List.mem_of_getElem? hxk.out)
        have hjb := (HRB.out.2 x (List.mem_of_getElem? hxk.out)).1
        obtain ⟨g, gx, cx, rfl, gm, gxm, gne, gc, q1, q2, ca, cb, gfr, gs⟩ := P2.out.swap (e0) x hxd.out a b hja hjb
        obtain ⟨t, ct, ft, hl⟩ := gs (x.getD b 0) (x.getD a 0)
        have HL : Hid (LO kdL 36 ((wr.setCell ⟨gx, a, none⟩ (.int .i64 (x.getD b 0))).setCell ⟨gx, b, none⟩ (.int .i64 (x.getD a 0))) (some ⟨g, 0, none⟩) c6 (mapN (swapJ a b) d.2 (e0 + 1)) fp') := by rw [← mapN_set _ _ _ x hxk.out]; exact hl
        have gF := F2.out gx gxm
        have GNE : Hid (∀ i, i ≤ w.heap.size + 1 ∨ w2.heap.size ≤ i ∨ i ∈ fp → i ≠ gx) := fun i hi e => by
          rcases hi with h | h | h
          · omega
          · omega
          · exact FD.out i h (e ▸ gxm)
        clear gs hl
        have NA : Hid (∀ p : Addr, A5 = some p → p.block ∈ fp) := fun p hp => by obtain ⟨css, fps, _, _, _, _, e, _⟩ := P1.out; rw [e, hp]; simp
        have HH : hsC[e0]? = some (.slice (some ⟨gx, 0, none⟩) x.length cx) := (OC.out.cell e0 he0).symm.trans gc
        have g8k : wr.cell? ⟨g8, k, none⟩ = some (.slice (some ⟨gx, 0, none⟩) x.length cx) := by rw [O8.out.cell k (by omega), List.getElem?_append_right (by rw [HGL.out]; omega), HGL.out, show k - n = e0 by have := hek.out; omega, HH]
        have HLO : Hid (mapN (swapJ a b) d.1 (k + 1) = mapN (swapJ a b) d.1 k) := by show _ = _; rw [mapN_all _ _ _ (by rw [hn.out]; omega), mapN_all _ _ _ (by rw [hn.out]; omega)]
        have EK : Hid (k + 1 - n = e0 + 1) := by show _ = _; have := hek.out; omega
        clear HH
        generalize x.getD a 0 = xa at *
        generalize x.getD b 0 = xb at *
        generalize x.length = m at *
        go_wp2
        go_region
        all_goals
          go_wp2
          go_roundw
          case rel =>
            have y := GNE.out
            have y8 : ∀ p : Addr, some (⟨g8, 0, none⟩ : Addr) = some p → p.block ≠ gx := fun p hp => by cases hp; exact y _ (.inr (.inl (by show w2.heap.size ≤ g8; omega)))
            have yM : ∀ p : Addr, some (⟨g, 0, none⟩ : Addr) = some p → p.block ≠ gx := fun p hp => by cases hp; exact Ne.symm gne
            exact ⟨k + 1, by omega, by go_num, by rw [HLO.out]; exact (((P1.out.keep (fun i hi => Below.heap_setCell _ _ _ _ (y i (.inr (.inr hi))))).keep (fun i hi => Below.heap_setCell _ _ _ _ (y i (.inr (.inr hi)))))), by rw [EK.out]; exact HL.out, ((O8.out.far y8 _).far y8 _), ((OG.out.far (fun p hp => y _ (.inr (.inr (NA.out p hp)))) _).far (fun p hp => y _ (.inr (.inr (NA.out p hp)))) _), ((OC.out.far yM _).far yM _), ((B2.out.far (y _ (.inr (.inl (Nat.le_refl _)))) _).far (y _ (.inr (.inl (Nat.le_refl _)))) _), ((B1.out.far (y _ (.inl (Nat.le_refl _))) _).far (y _ (.inl (Nat.le_refl _))) _), Below.setCell (Below.setCell (X.out.trans (Ext.drew _)) (by show w.heap.size ≤ gx; omega) _) (by show w.heap.size ≤ gx; omega) _⟩
          case measure => simp [intOf]; omega
      · have ek : n + n' = k := by omega
        replace P1 : Hid (LO kdL 36 wr A5 c5 (d.1.map (swapJ a b)) fp) := by have h8 := P1.out; rwa [mapN_all _ _ _ (by rw [hn.out]; omega)] at h8
        replace P2 : Hid (LO kdL 36 wr A6 c6 (d.2.map (swapJ a b)) fp') := by have h8 := P2.out; rwa [mapN_all _ _ _ (by rw [hn'.out]; omega)] at h8
        have hkq : ¬ ((k : Int) < n + n') := by omega
        clear O8 OG OC
        clear ek
        have c1_ := B1.out.cell; have f1_ := B1.out.free
        have cB := B2.out.cell
        have FR : Hid (kM.fr wr w1.heap.size w2.heap.size (.agg #[.slice A5 n c5, .slice A6 n' c6]) (d.1.map (swapJ a b), d.2.map (swapJ a b))) :=
          kM.mk (d := (d.1.map (swapJ a b), d.2.map (swapJ a b))) P1.out P2.out (by show n = (d.1.map (swapJ a b)).length; rw [List.length_map, hn.out]) (by show n' = (d.2.map (swapJ a b)).length; rw [List.length_map, hn'.out]) F1.out F2.out FD.out
        have z6 := B2.out.lt
        clear P1 P2 F1 F2 FD HRA HRB
        go_wp2
        refine bodyPost_ret (v := .tuple #[.agg #[.slice A5 n c5, .slice A6 n' c6], .bool true]) (by simp [results, Try.results5, go_sem, c1_]) rfl ?_
        rw [HF.out]
        refine ⟨_, rfl, kM.fr_mono (kM.fr_far (kM.fr_far FR.out _ (by simp; omega) _) _ (by simp; omega) _) (by omega) ?_, OKS.out, Below.setCell (Below.setCell X.out (by simp) _) (by simp) _⟩
        simp
        omega
end Go.Proofs.Ytifdpmpconjhmaa
