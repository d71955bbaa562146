/- Two judges changed over: the reference's function. -/
import Derived.Test.YtifdpmpconjhmaaMU
namespace Go.Proofs.Ytifdpmpconjhmaa
open Go.RowKit Go.Sort
set_option linter.unusedVariables false

set_option maxRecDepth 100000 in
set_option maxHeartbeats 4000000 in
theorem s.SwapJudges_law (w : World) (v : Value) (d : MD) (ya yb : Int) (h : kM.rd w v d) (hok : kM.ok d) (hya : InR ya) (hyb : InR yb) :
    Calls Try.prog 6 #[v, .int .i64 ya, .int .i64 yb] w fun e w' => ∃ v0, e = .returned (.tuple #[v0, .bool (swapJudgesF d ya yb).2]) ∧ kM.fr w' w.heap.size w'.heap.size v0 (swapJudgesF d ya yb).1 ∧ kM.ok (swapJudgesF d ya yb).1 ∧ Ext w w' := by
  obtain ⟨A, c, A', c', rfl, h1, h2⟩ := kM.lr h
  have HR := hide h
  have a1 := h1.1; have a2 := h1.2.1; have a3 := h2.1; have a4 := h2.2.1
  clear h h1 h2
  obtain ⟨n, hn⟩ : ∃ n, Hid (d.1.length = n) := ⟨_, rfl⟩
  obtain ⟨n', hn'⟩ : ∃ n', Hid (d.2.length = n') := ⟨_, rfl⟩
  rw [hn.out, hn'.out] at HR ⊢
  rw [hn.out] at a1
  rw [hn'.out] at a3
  obtain ⟨W0, hW0⟩ : ∃ W0, Hid (W0 = (w.alloc (.cells #[.slice A n c, .slice A' n' c'] 25)).alloc (.cells #[.slice none 0 0, .slice none 0 0] 25)) := ⟨_, rfl⟩
  have X : Hid (Ext w W0) := by rw [hW0.out]; exact (Ext.alloc w _).trans (Ext.alloc _ _)
  have B0 : Hid (Blk W0 w.heap.size #[.slice A n c, .slice A' n' c'] 25) := by rw [hW0.out]; exact (Blk.new rfl _ _).alloc _
  have B1 : Hid (Blk W0 (w.heap.size + 1) #[.slice none 0 0, .slice none 0 0] 25) := by rw [hW0.out]; exact Blk.new (by simp) _ _
  obtain ⟨F, hF⟩ : ∃ F, Hid (swapJudgesF d ya yb = F) := ⟨_, rfl⟩
  rw [hF.out]
  go_enter Try.func6, Try.ntmps6
  go_wp2_with fail
  rw [← hW0.out]
  clear hW0
  refine (s.mkHas_m _ _ d ya (kM.rd_ext HR.out X.out) hok).mono ?_
  rintro e w9 ⟨rfl, x1⟩
  replace X := hide (X.out.trans x1)
  replace B0 := hide (B0.out.ext x1)
  replace B1 := hide (B1.out.ext x1)
  clear x1
  have c0_ := B0.out.cell; have c1_ := B1.out.cell; have f1_ := B1.out.free
  cases hma : hasJudge d ya
  · have HM := hide hma
    clear hma
    go_wp2
    refine bodyPost_ret (v := .tuple #[noMarks, .bool false]) (by simp [results, Try.results6, go_sem, c1_, noMarks]) rfl ?_
    have hf : F = (([], []), false) := by rw [← hF.out]; simp [swapJudgesF, HM.out]
    subst hf
    exact ⟨noMarks, rfl, kM.fr_nil _ _ _, kM.ok_nil, Below.setCell (Below.setCell X.out (by simp) _) (by simp) _⟩
  have HMA := hide hma
  clear hma
  go_wp2_with fail
  refine (s.mkHas_m _ _ d yb (kM.rd_ext HR.out X.out) hok).mono ?_
  rintro e w1 ⟨rfl, x1⟩
  replace X := hide (X.out.trans x1)
  replace B0 := hide (B0.out.ext x1)
  replace B1 := hide (B1.out.ext x1)
  clear x1 c0_ c1_ f1_
  have c0_ := B0.out.cell; have c1_ := B1.out.cell; have f1_ := B1.out.free
  cases hmb : hasJudge d yb
  · have HM := hide hmb
    clear hmb
    go_wp2
    refine bodyPost_ret (v := .tuple #[noMarks, .bool false]) (by simp [results, Try.results6, go_sem, c1_, noMarks]) rfl ?_
    have hf : F = (([], []), false) := by rw [← hF.out]; simp [swapJudgesF, HM.out]
    subst hf
    exact ⟨noMarks, rfl, kM.fr_nil _ _ _, kM.ok_nil, Below.setCell (Below.setCell X.out (by simp) _) (by simp) _⟩
  obtain ⟨hmk, a, rfl, ha⟩ := hasJudge_ok HMA.out
  obtain ⟨_, b, rfl, hb⟩ := hasJudge_ok hmb
  have r1 := marksB_ok hmk
  have l1 : n ≤ 14 := by have := r1.1; rw [hn.out] at this; exact this
  have l3 : n' ≤ 3 ∧ 3 ≤ n' := by have := r1.2.1; rw [hn'.out] at this; omega
  have HRA := hide (rows_ok hmk ha)
  have HRB := hide (rows_ok hmk hb)
  have HF : Hid (F = ((d.1.map (swapJ a b), d.2.map (swapJ a b)), true)) := by show _ = _; rw [← hF.out]; simp [swapJudgesF, HMA.out, hmb]
  have OKS := hide (swapJ_ok a b hok)
  clear hmb r1 hmk hF ha hb HMA
  go_wp2_with fail
  refine (s.mkOwn_any _ _ d (kM.rd_ext HR.out X.out) hok).mono ?_
  rintro e w2 ⟨v2, rfl, o2, x2⟩
  obtain ⟨A5, c5, A6, c6, fp, fp', rfl, p1, p2, f1, f2, fd⟩ := kM.open o2
  rw [hn.out, hn'.out]
  have z1 : w.heap.size + 1 < w1.heap.size := B1.out.lt
  have z2 := x2.size
  replace X := hide (X.out.trans x2)
  replace B1 := hide (B1.out.ext x2)
  have P1 := hide p1
  have P2 := hide p2
  have F1 := hide f1
  have F2 := hide f2
  have FD := hide fd
  have cp1 := p1.cap; have cp2 := p2.cap
  rw [hn.out] at cp1
  rw [hn'.out] at cp2
  clear o2 x2 p1 p2 f1 f2 fd B0 c0_ c1_ f1_ HR
  obtain ⟨W3, hW3⟩ : ∃ W3, Hid (W3 = w2.alloc (.cells #[.slice A5 n c5, .slice A6 n' c6] 25)) := ⟨_, rfl⟩
  have xa : Ext w2 W3 := by rw [hW3.out]; exact Ext.alloc _ _
  have B2 : Hid (Blk W3 w2.heap.size #[.slice A5 n c5, .slice A6 n' c6] 25) := by rw [hW3.out]; exact Blk.new rfl _ _
  have cBn : ∀ i, (w2.alloc (.cells #[.slice A5 n c5, .slice A6 n' c6] 25)).cell? ⟨w2.heap.size, i, none⟩ = #[Value.slice A5 n c5, .slice A6 n' c6][i]? := by rw [← hW3.out]; exact B2.out.cell
  obtain ⟨W4, hW4⟩ : ∃ W4, Hid (W4 = (w2.alloc (.cells #[.slice A5 n c5, .slice A6 n' c6] 25)).alloc (.cells #[.slice A5 n c5, .slice A6 n' c6] 23)) := ⟨_, rfl⟩
  have xb : Ext W3 W4 := by rw [hW4.out, ← hW3.out]; exact Ext.alloc _ _
  have B3 : Hid (Blk W4 (w2.heap.size + 1) #[.slice A5 n c5, .slice A6 n' c6] 23) := by rw [hW4.out]; exact Blk.new (by simp) _ _
  go_wp2
  rw [← hW4.out]
  replace X := hide (X.out.trans (xa.trans xb))
  replace B1 := hide (B1.out.ext (xa.trans xb))
  replace B2 := hide (B2.out.ext xb)
  replace P1 := hide (P1.out.ext (xa.trans xb))
  replace P2 := hide (P2.out.ext (xa.trans xb))
  clear hW3 xa cBn hW4 xb
  go_loopw [33] (fun i wr => ∃ (q : Nat), q ≤ 2 ∧ i = .int .i64 q ∧ LO kdL 36 wr A5 c5 (if 1 ≤ q then d.1.map (swapJ a b) else d.1) fp ∧ LO kdL 36 wr A6 c6 (if 2 ≤ q then d.2.map (swapJ a b) else d.2) fp' ∧ Blk wr w2.heap.size #[.slice A5 n c5, .slice A6 n' c6] 25 ∧ Blk wr (w2.heap.size + 1) #[.slice A5 n c5, .slice A6 n' c6] 23 ∧ Blk wr (w.heap.size + 1) #[.slice none 0 0, .slice none 0 0] 25 ∧ Ext w wr) (fun i _ => 2 - (intOf i).toNat)
  case atStart => exact ⟨0, Nat.zero_le _, rfl, P1.out, P2.out, B2.out, B3.out, B1.out, X.out⟩
  case round =>
    obtain ⟨q, hq, rfl, p1, p2, b2, b3, b1', hx⟩ := hrel
    clear P1 P2 B1 B2 B3 X
    have P1 := hide p1
    have P2 := hide p2
    have B1 := hide b1'
    have B2 := hide b2
    have B3 := hide b3
    have X := hide hx
    clear p1 p2 b2 b3 b1' hx
    rcases (by omega : q = 0 ∨ q = 1 ∨ q = 2) with e | e | e
    · subst e
      rw [if_neg (by omega)] at P1 P2
      have cL := B3.out.cell
      go_wp2
      clear cL
      go_loopw [39] (fun i wr => ∃ (k : Nat), k ≤ n ∧ i = .int .i64 k ∧ LO kdL 36 wr A5 c5 (mapN (swapJ a b) d.1 k) fp ∧ LO kdL 36 wr A6 c6 d.2 fp' ∧ Blk wr w2.heap.size #[.slice A5 n c5, .slice A6 n' c6] 25 ∧ Blk wr (w2.heap.size + 1) #[.slice A5 n c5, .slice A6 n' c6] 23 ∧ Blk wr (w.heap.size + 1) #[.slice none 0 0, .slice none 0 0] 25 ∧ Ext w wr) (fun i _ => n - (intOf i).toNat)
      case atStart => exact ⟨0, Nat.zero_le _, rfl, by rw [mapN_zero]; exact P1.out, P2.out, B2.out, B3.out, B1.out, X.out⟩
      case round =>
        obtain ⟨k, hk, rfl, p1, p2, b2, b3, b1', hx⟩ := hrel
        clear P1 P2 B1 B2 B3 X
        have P1 := hide p1
        have P2 := hide p2
        have B1 := hide b1'
        have B2 := hide b2
        have B3 := hide b3
        have X := hide hx
        clear p1 p2 b2 b3 b1' hx
        by_cases hlt : k < n
        · have hki : (k : Int) < n := by omega
          obtain ⟨x, hxk⟩ : ∃ x, Hid (d.1[k]? = some x) := ⟨_, List.getElem?_eq_getElem (by rw [hn.out]; omega)⟩
          have hxd : Hid ((mapN (swapJ a b) d.1 (k))[k]? = some x) := by show _ = _; rw [mapN_at _ _ _ (by rw [hn.out]; omega)]; exact hxk.out
          obtain ⟨hja, hx9⟩ := HRA.out.1 x (List.mem_of_getElem? hxk.out)
          have hjb := (HRB.out.1 x (List.mem_of_getElem? hxk.out)).1
          obtain ⟨g, gx, cx, rfl, gm, gxm, gne, gc, q1, q2, ca, cb, gfr, gs⟩ := P1.out.swap (k) x hxd.out a b hja hjb
          obtain ⟨t, ct, ft, hl⟩ := gs (x.getD b 0) (x.getD a 0)
          have HL : Hid (LO kdL 36 ((wr.setCell ⟨gx, a, none⟩ (.int .i64 (x.getD b 0))).setCell ⟨gx, b, none⟩ (.int .i64 (x.getD a 0))) (some ⟨g, 0, none⟩) c5 (mapN (swapJ a b) d.1 (k + 1)) fp) := by rw [← mapN_set _ _ _ x hxk.out]; exact hl
          have gF := F1.out gx gxm
          have GNE : Hid (∀ i, i ≤ w.heap.size + 1 ∨ w2.heap.size ≤ i ∨ i ∈ fp' → i ≠ gx) := fun i hi e => by
            rcases hi with h | h | h
            · omega
            · omega
            · exact FD.out gx gxm (e ▸ h)
          clear gs hl
          generalize x.getD a 0 = xa at *
          generalize x.getD b 0 = xb at *
          generalize x.length = m at *
          go_wp2
          go_roundw
          case rel =>
            have y := GNE.out
            have y1 := B2.out.lt
            exact ⟨k + 1, by omega, by go_num, HL.out, ((P2.out.keep (fun i hi => Below.heap_setCell _ _ _ _ (y i (.inr (.inr hi))))).keep (fun i hi => Below.heap_setCell _ _ _ _ (y i (.inr (.inr hi))))), ((B2.out.far (y _ (.inr (.inl (Nat.le_refl _)))) _).far (y _ (.inr (.inl (Nat.le_refl _)))) _), ((B3.out.far (y _ (.inr (.inl (by omega)))) _).far (y _ (.inr (.inl (by omega)))) _), ((B1.out.far (y _ (.inl (Nat.le_refl _))) _).far (y _ (.inl (Nat.le_refl _))) _), Below.setCell (Below.setCell X.out (by simp <;> omega) _) (by simp <;> omega) _⟩
          case measure => simp [intOf]; omega
        · have ek : n = k := by omega
          subst ek
          replace P1 : Hid (LO kdL 36 wr A5 c5 (d.1.map (swapJ a b)) fp) := by have h8 := P1.out; rwa [mapN_all _ _ _ (by rw [hn.out]; exact Nat.le_refl _)] at h8
          go_wp2
          go_roundw
          case rel => exact ⟨1, by omega, by go_num, by rw [if_pos (by omega)]; exact P1.out, by rw [if_neg (by omega)]; exact P2.out, B2.out, B3.out, B1.out, X.out⟩
          case measure => simp [intOf]
    · subst e
      rw [if_pos (by omega)] at P1
      rw [if_neg (by omega)] at P2
      have cL := B3.out.cell
      go_wp2
      clear cL
      go_loopw [39] (fun i wr => ∃ (k : Nat), k ≤ n' ∧ i = .int .i64 k ∧ LO kdL 36 wr A6 c6 (mapN (swapJ a b) d.2 k) fp' ∧ LO kdL 36 wr A5 c5 (d.1.map (swapJ a b)) fp ∧ Blk wr w2.heap.size #[.slice A5 n c5, .slice A6 n' c6] 25 ∧ Blk wr (w2.heap.size + 1) #[.slice A5 n c5, .slice A6 n' c6] 23 ∧ Blk wr (w.heap.size + 1) #[.slice none 0 0, .slice none 0 0] 25 ∧ Ext w wr) (fun i _ => n' - (intOf i).toNat)
      case atStart => exact ⟨0, Nat.zero_le _, rfl, by rw [mapN_zero]; exact P2.out, P1.out, B2.out, B3.out, B1.out, X.out⟩
      case round =>
        obtain ⟨k, hk, rfl, p1, p2, b2, b3, b1', hx⟩ := hrel
        clear P1 P2 B1 B2 B3 X
        have P2 := hide p1
        have P1 := hide p2
        have B1 := hide b1'
        have B2 := hide b2
        have B3 := hide b3
        have X := hide hx
        clear p1 p2 b2 b3 b1' hx
        by_cases hlt : k < n'
        · have hki : (k : Int) < n' := by omega
          obtain ⟨x, hxk⟩ : ∃ x, Hid (d.2[k]? = some x) := ⟨_, List.getElem?_eq_getElem (by rw [hn'.out]; omega)⟩
          have hxd : Hid ((mapN (swapJ a b) d.2 (k))[k]? = some x) := by show _ = _; rw [mapN_at _ _ _ (by rw [hn'.out]; omega)]; exact hxk.out
          obtain ⟨hja, hx9⟩ := HRA.out.2 x (List.mem_of_getElem? hxk.out)
          have hjb := (HRB.out.2 x (List.mem_of_getElem? hxk.out)).1
          obtain ⟨g, gx, cx, rfl, gm, gxm, gne, gc, q1, q2, ca, cb, gfr, gs⟩ := P2.out.swap (k) x hxd.out a b hja hjb
          obtain ⟨t, ct, ft, hl⟩ := gs (x.getD b 0) (x.getD a 0)
          have HL : Hid (LO kdL 36 ((wr.setCell ⟨gx, a, none⟩ (.int .i64 (x.getD b 0))).setCell ⟨gx, b, none⟩ (.int .i64 (x.getD a 0))) (some ⟨g, 0, none⟩) c6 (mapN (swapJ a b) d.2 (k + 1)) fp') := by rw [← mapN_set _ _ _ x hxk.out]; exact hl
          have gF := F2.out gx gxm
          have GNE : Hid (∀ i, i ≤ w.heap.size + 1 ∨ w2.heap.size ≤ i ∨ i ∈ fp → i ≠ gx) := fun i hi e => by
            rcases hi with h | h | h
            · omega
            · omega
            · exact FD.out i h (e ▸ gxm)
          clear gs hl
          generalize x.getD a 0 = xa at *
          generalize x.getD b 0 = xb at *
          generalize x.length = m at *
          go_wp2
          go_roundw
          case rel =>
            have y := GNE.out
            have y1 := B2.out.lt
            exact ⟨k + 1, by omega, by go_num, HL.out, ((P1.out.keep (fun i hi => Below.heap_setCell _ _ _ _ (y i (.inr (.inr hi))))).keep (fun i hi => Below.heap_setCell _ _ _ _ (y i (.inr (.inr hi))))), ((B2.out.far (y _ (.inr (.inl (Nat.le_refl _)))) _).far (y _ (.inr (.inl (Nat.le_refl _)))) _), ((B3.out.far (y _ (.inr (.inl (by omega)))) _).far (y _ (.inr (.inl (by omega)))) _), ((B1.out.far (y _ (.inl (Nat.le_refl _))) _).far (y _ (.inl (Nat.le_refl _))) _), Below.setCell (Below.setCell X.out (by simp <;> omega) _) (by simp <;> omega) _⟩
          case measure => simp [intOf]; omega
        · have ek : n' = k := by omega
          subst ek
          replace P2 : Hid (LO kdL 36 wr A6 c6 (d.2.map (swapJ a b)) fp') := by have h8 := P2.out; rwa [mapN_all _ _ _ (by rw [hn'.out]; exact Nat.le_refl _)] at h8
          go_wp2
          go_roundw
          case rel => exact ⟨2, by omega, by go_num, by rw [if_pos (by omega)]; exact P1.out, by rw [if_pos (by omega)]; exact P2.out, B2.out, B3.out, B1.out, X.out⟩
          case measure => simp [intOf]
    · subst e
      rw [if_pos (by omega)] at P1 P2
      have c1_ := B1.out.cell; have f1_ := B1.out.free
      have cB := B2.out.cell
      have FR : Hid (kM.fr wr w1.heap.size w2.heap.size (.agg #[.slice A5 n c5, .slice A6 n' c6]) (d.1.map (swapJ a b), d.2.map (swapJ a b))) :=
        kM.mk (d := (d.1.map (swapJ a b), d.2.map (swapJ a b))) P1.out P2.out (by show n = (d.1.map (swapJ a b)).length; rw [List.length_map, hn.out]) (by show n' = (d.2.map (swapJ a b)).length; rw [List.length_map, hn'.out]) F1.out F2.out FD.out
      have z6 := B2.out.lt
      clear P1 P2 F1 F2 FD HRA HRB
      go_wp2
      refine bodyPost_ret (v := .tuple #[.agg #[.slice A5 n c5, .slice A6 n' c6], .bool true]) (by simp [results, Try.results6, go_sem, c1_]) rfl ?_
      rw [HF.out]
      refine ⟨_, rfl, kM.fr_mono (kM.fr_far (kM.fr_far FR.out _ (by simp; omega) _) _ (by simp; omega) _) (by omega) ?_, OKS.out, Below.setCell (Below.setCell X.out (by simp) _) (by simp) _⟩
      simp
      omega
end Go.Proofs.Ytifdpmpconjhmaa
