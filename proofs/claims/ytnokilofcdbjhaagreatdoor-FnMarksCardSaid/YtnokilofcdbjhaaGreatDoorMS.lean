/- A judge dropped: the program's function. -/
import Derived.Test.YtnokilofcdbjhaaGreatDoorMR
namespace Go.Proofs.YtnokilofcdbjhaaGreatDoor
open Go.RowKit Go.Sort
set_option linter.unusedVariables false

set_option maxRecDepth 100000 in
set_option maxHeartbeats 4000000 in
theorem i.DropJudge_law (w : World) (v : Value) (d : MD) (y : Int) (h : kM.rd w v d) (hok : kM.ok d) (hy : InR y) :
    Calls Tryz.prog 23 #[v, .int .i64 y] w fun e w' => ∃ v0, e = .returned (.tuple #[v0, .bool (dropJudgeF d y).2]) ∧ kM.fr w' w.heap.size w'.heap.size v0 (dropJudgeF d y).1 ∧ kM.ok (dropJudgeF d y).1 ∧ Ext w w' := by
  obtain ⟨A, c, A', c', rfl, h1, h2⟩ := kM.lr h
  have HR := hide h
  have a1 := h1.1; have a2 := h1.2.1; have a3 := h2.1; have a4 := h2.2.1
  clear h h1 h2
  obtain ⟨n, hn⟩ : ∃ n, Hid (d.1.length = n) := ⟨_, rfl⟩
  obtain ⟨n', hn'⟩ : ∃ n', Hid (d.2.length = n') := ⟨_, rfl⟩
  rw [hn.out, hn'.out] at HR ⊢
  rw [hn.out] at a1
  rw [hn'.out] at a3
  obtain ⟨W0, hW0⟩ : ∃ W0, Hid (W0 = (w.alloc (.cells #[.slice A n c, .slice A' n' c'] 25)).alloc (.cells #[.slice none 0 0, .slice none 0 0] 25)) := ⟨_, rfl⟩
  have X : Hid (Ext w W0) := by rw [hW0.out]; exact (Ext.alloc w _).trans (Ext.alloc _ _)
  have B0 : Hid (Blk W0 w.heap.size #[.slice A n c, .slice A' n' c'] 25) := by rw [hW0.out]; exact (Blk.new rfl _ _).alloc _
  have B1 : Hid (Blk W0 (w.heap.size + 1) #[.slice none 0 0, .slice none 0 0] 25) := by rw [hW0.out]; exact Blk.new (by simp) _ _
  obtain ⟨F, hF⟩ : ∃ F, Hid (dropJudgeF d y = F) := ⟨_, rfl⟩
  rw [hF.out]
  go_enter Tryz.func23, Tryz.ntmps23
  go_wp2_with fail
  rw [← hW0.out]
  clear hW0
  refine (i.isJudge_m _ _ d y (kM.rd_ext HR.out X.out) hok).mono ?_
  rintro e w1 ⟨rfl, x1⟩
  replace X := hide (X.out.trans x1)
  replace B0 := hide (B0.out.ext x1)
  replace B1 := hide (B1.out.ext x1)
  clear x1
  have c0_ := B0.out.cell; have c1_ := B1.out.cell; have f1_ := B1.out.free
  cases hm : hasJudge d y
  · have HM := hide hm
    clear hm
    go_wp2
    refine bodyPost_ret (v := .tuple #[noMarks, .bool false]) (by simp [results, Tryz.results23, go_sem, c1_, noMarks]) rfl ?_
    have hf : F = (([], []), false) := by rw [← hF.out]; simp [dropJudgeF, HM.out]
    subst hf
    exact ⟨noMarks, rfl, kM.fr_nil _ _ _, kM.ok_nil, Below.setCell (Below.setCell X.out (by simp) _) (by simp) _⟩
  · obtain ⟨hmk, j, rfl, hj⟩ := hasJudge_ok hm
    have r1 := marksB_ok hmk
    have l1 : n ≤ 14 := by have := r1.1; rw [hn.out] at this; exact this
    have l3 : n' ≤ 3 ∧ 3 ≤ n' := by have := r1.2.1; rw [hn'.out] at this; omega
    have hj9 : j ≤ 9 := by have := r1.2.2.2.1; omega
    have HRW := hide (rows_ok hmk hj)
    have HF : Hid (F = ifMarks (d.1.map (cutJ j), d.2.map (cutJ j))) := by show _ = _; rw [← hF.out]; simp [dropJudgeF, hm]
    have OKS := hide (dropJ_ok j hok)
    have j6 : IntKind.i64.wrap ((j : Int) + 1) = (j : Int) + 1 := IntWalk.i64_in _ (by omega)
    clear hm r1 hmk hF hj
    go_wp2_with fail
    refine (i.copyMarks_any _ _ d (kM.rd_ext HR.out X.out) hok).mono ?_
    rintro e w2 ⟨v2, rfl, o2, x2⟩
    obtain ⟨A5, c5, A6, c6, fp, fp', rfl, p1, p2, f1, f2, fd⟩ := kM.open o2
    rw [hn.out, hn'.out]
    have z1 : w.heap.size + 1 < w1.heap.size := B1.out.lt
    have z2 := x2.size
    replace X := hide (X.out.trans x2)
    replace B1 := hide (B1.out.ext x2)
    have P1 := hide p1
    have P2 := hide p2
    have F1 := hide f1
    have F2 := hide f2
    have FD := hide fd
    have cp1 := p1.cap; have cp2 := p2.cap
    rw [hn.out] at cp1
    rw [hn'.out] at cp2
    clear o2 x2 p1 p2 f1 f2 fd B0 c0_ c1_ f1_
    obtain ⟨W3, hW3⟩ : ∃ W3, Hid (W3 = w2.alloc (.cells #[.slice A5 n c5, .slice A6 n' c6] 25)) := ⟨_, rfl⟩
    have xa : Ext w2 W3 := by rw [hW3.out]; exact Ext.alloc _ _
    have B2 : Hid (Blk W3 w2.heap.size #[.slice A5 n c5, .slice A6 n' c6] 25) := by rw [hW3.out]; exact Blk.new rfl _ _
    have cBn : ∀ i, (w2.alloc (.cells #[.slice A5 n c5, .slice A6 n' c6] 25)).cell? ⟨w2.heap.size, i, none⟩ = #[Value.slice A5 n c5, .slice A6 n' c6][i]? := by rw [← hW3.out]; exact B2.out.cell
    go_wp2
    rw [← hW3.out]
    replace X := hide (X.out.trans xa)
    replace B1 := hide (B1.out.ext xa)
    replace P1 := hide (P1.out.ext xa)
    replace P2 := hide (P2.out.ext xa)
    clear hW3 xa cBn
    have F3 : Hid (∀ i ∈ fp, w1.heap.size ≤ i ∧ i ≠ w2.heap.size ∧ i ∉ fp') := fun i hi => ⟨(F1.out i hi).1, by have := F1.out i hi; omega, FD.out i hi⟩
    go_loopw [21] (fun i wr => ∃ (k : Nat) (fq : List Nat), k ≤ n ∧ i = .int .i64 k ∧ LO kdL 31 wr A5 c5 (dropN d.1 j k) fq ∧ (∀ i ∈ fq, w1.heap.size ≤ i ∧ i ≠ w2.heap.size ∧ i ∉ fp') ∧ LO kdL 31 wr A6 c6 d.2 fp' ∧ Blk wr w2.heap.size #[.slice A5 n c5, .slice A6 n' c6] 25 ∧ Blk wr (w.heap.size + 1) #[.slice none 0 0, .slice none 0 0] 25 ∧ Ext w wr) (fun i _ => n - (intOf i).toNat)
    case atStart => exact ⟨0, fp, Nat.zero_le _, rfl, by rw [dropN_zero]; exact P1.out, F3.out, P2.out, B2.out, B1.out, X.out⟩
    case round =>
      obtain ⟨k, fq, hk, rfl, p1, f1, p2, b2, b1', hx⟩ := hrel
      clear P1 P2 B1 B2 X
      have P1 := hide p1
      have F5 := hide f1
      have P2 := hide p2
      have B1 := hide b1'
      have B2 := hide b2
      have X := hide hx
      clear p1 f1 p2 b2 b1' hx
      by_cases hlt : k < n
      · obtain ⟨x, hxk⟩ : ∃ x, Hid (d.1[k]? = some x) := ⟨_, List.getElem?_eq_getElem (by rw [hn.out]; exact hlt)⟩
        have hxd : Hid ((dropN d.1 j k)[k]? = some x) := by show _ = _; rw [dropN_at _ _ _ (by rw [hn.out]; exact hlt)]; exact hxk.out
        have hjx := HRW.out.1 x (List.mem_of_getElem? hxk.out)
        have hx0 : x.length ≤ 1048576 := by omega
        have HN : Hid ((dropN d.1 j k).set k (x.take j ++ x.drop (j + 1)) = dropN d.1 j (k + 1)) := dropN_set d.1 j k x hxk.out
        obtain ⟨g, gx, cx, rfl, gm, gc, gf, go, _⟩ := P1.out.shrink k x hxd.out (by omega)
        have PL := hide (P1.out.ext (Ext.drew wr))
        obtain ⟨g', gx', cx', e1, _, gc', gf', go', gr⟩ := PL.out.shrink k x hxd.out (by omega)
        simp only [Option.some.injEq, Addr.mk.injEq, and_true] at e1
        subst e1
        have e2 : some (Value.slice (some ⟨gx, 0, none⟩) x.length cx) = some (.slice (some ⟨gx', 0, none⟩) x.length cx') := gc.symm.trans gc'
        simp only [Option.some.injEq, Value.slice.injEq, Addr.mk.injEq, true_and, and_true] at e2
        obtain ⟨rfl, rfl⟩ := e2
        have GO := hide go'
        have GR := hide gr
        have q1 := go.capn; have q2 := go.capm
        have cB := B2.out.cell
        have glt := P1.out.lt g gm
        clear go go' gr gc' gf'
        have Y2 : Hid (Ext wr wr.drew) := Ext.drew _
        have NF : Hid (∀ i, i < w1.heap.size ∨ i = w2.heap.size ∨ i ∈ fp' → i ∉ fq) := fun i hi hm => by
          have h8 := F5.out i hm
          rcases hi with h | h | h
          · omega
          · exact h8.2.1 h
          · exact h8.2.2 h
        have hkn : k < n := by omega
        have hki : (k : Int) < n := by omega
        go_wp2
        go_region_law (first | (go_simp; go_at_call 54; refine (slicesDelete_any gx x.length cx 0 j x _ GO.out hx0 hjx.1).mono ?_; rintro e w3 ⟨rfl, o3, g3⟩; have h9 := GR.out w3 _ _ o3 g3; have c9 := h9.1; have f9 := h9.2.1; have cB3 := ((B2.out.ext Y2.out).tchF h9.2.2.1 (NF.out _ (.inr (.inl rfl)))).cell; have H9 := hide h9; clear h9 o3 g3))
        all_goals
          go_wp2
          go_roundw
          case rel =>
            obtain ⟨_, _, ht, fq', hl, hs⟩ := H9.out
            have y1 := B2.out.lt
            have y2 := Y2.out
            have gF := F5.out g gm
            have nf := NF.out
            exact ⟨k + 1, fq', by omega, by go_num, by rw [← HN.out]; exact hl, fun i hi => F5.out i (hs i hi), (((P2.out.ext y2).keep (fun i hi => ht.block i (Nat.lt_of_lt_of_le (P2.out.lt i hi) y2.size) (nf i (.inr (.inr hi))))).keep (fun i hi => Below.heap_setCell _ _ _ _ (fun (e : i = g) => gF.2.2 (e ▸ hi)))), (((B2.out.ext y2).tchF ht (nf _ (.inr (.inl rfl)))).far (fun e => gF.2.1 e.symm) _), (((B1.out.ext y2).tchF ht (nf _ (.inl z1))).far (by simp; omega) _), Below.setCell ((X.out.trans y2).tchF ht (fun i hi => by have := F5.out i hi; omega)) (by simp <;> omega) _⟩
          case measure => simp [intOf]; omega
      · have ek : n = k := by omega
        subst ek
        replace P1 : Hid (LO kdL 31 wr A5 c5 (d.1.map (cutJ j)) fq) := by have h8 := P1.out; rwa [dropN_all d.1 j n (by rw [hn.out]; exact Nat.le_refl _)] at h8
        -- the second list shrinks, the first one stays
        obtain ⟨fz, hfz⟩ : ∃ fz, fz = fq := ⟨_, rfl⟩
        subst hfz
        replace F3 : Hid (∀ i ∈ fp', w1.heap.size ≤ i ∧ i ≠ w2.heap.size ∧ i ∉ fz) := fun i hi => ⟨(F2.out i hi).1, by have := F2.out i hi; omega, fun hm => (F5.out i hm).2.2 hi⟩
        have F6 : Hid (∀ i ∈ fz, w1.heap.size ≤ i ∧ i ≠ w2.heap.size) := fun i hi => ⟨(F5.out i hi).1, (F5.out i hi).2.1⟩
        have Pa := P1; have Pb := P2
        clear P1 P2 F1 F2 FD F5
        have P1 := Pb; have P2 := Pa
        clear Pa Pb
        have cB := B2.out.cell
        go_wp2
        clear cB
        go_loopw [39] (fun i wr => ∃ (k : Nat) (fq : List Nat), k ≤ n' ∧ i = .int .i64 k ∧ LO kdL 31 wr A6 c6 (dropN d.2 j k) fq ∧ (∀ i ∈ fq, w1.heap.size ≤ i ∧ i ≠ w2.heap.size ∧ i ∉ fz) ∧ LO kdL 31 wr A5 c5 (d.1.map (cutJ j)) fz ∧ Blk wr w2.heap.size #[.slice A5 n c5, .slice A6 n' c6] 25 ∧ Blk wr (w.heap.size + 1) #[.slice none 0 0, .slice none 0 0] 25 ∧ Ext w wr) (fun i _ => n' - (intOf i).toNat)
        case atStart => exact ⟨0, fp', Nat.zero_le _, rfl, by rw [dropN_zero]; exact P1.out, F3.out, P2.out, B2.out, B1.out, X.out⟩
        case round =>
          obtain ⟨k, fq, hk, rfl, p1, f1, p2, b2, b1', hx⟩ := hrel
          clear P1 P2 B1 B2 X
          have P1 := hide p1
          have F5 := hide f1
          have P2 := hide p2
          have B1 := hide b1'
          have B2 := hide b2
          have X := hide hx
          clear p1 f1 p2 b2 b1' hx
          by_cases hlt : k < n'
          · obtain ⟨x, hxk⟩ : ∃ x, Hid (d.2[k]? = some x) := ⟨_, List.getElem?_eq_getElem (by rw [hn'.out]; exact hlt)⟩
            have hxd : Hid ((dropN d.2 j k)[k]? = some x) := by show _ = _; rw [dropN_at _ _ _ (by rw [hn'.out]; exact hlt)]; exact hxk.out
            have hjx := HRW.out.2 x (List.mem_of_getElem? hxk.out)
            have hx0 : x.length ≤ 1048576 := by omega
            have HN : Hid ((dropN d.2 j k).set k (x.take j ++ x.drop (j + 1)) = dropN d.2 j (k + 1)) := dropN_set d.2 j k x hxk.out
            obtain ⟨g, gx, cx, rfl, gm, gc, gf, go, _⟩ := P1.out.shrink k x hxd.out (by omega)
            have PL := hide (P1.out.ext (Ext.drew wr))
            obtain ⟨g', gx', cx', e1, _, gc', gf', go', gr⟩ := PL.out.shrink k x hxd.out (by omega)
            simp only [Option.some.injEq, Addr.mk.injEq, and_true] at e1
            subst e1
            have e2 : some (Value.slice (some ⟨gx, 0, none⟩) x.length cx) = some (.slice (some ⟨gx', 0, none⟩) x.length cx') := gc.symm.trans gc'
            simp only [Option.some.injEq, Value.slice.injEq, Addr.mk.injEq, true_and, and_true] at e2
            obtain ⟨rfl, rfl⟩ := e2
            have GO := hide go'
            have GR := hide gr
            have q1 := go.capn; have q2 := go.capm
            have cB := B2.out.cell
            have glt := P1.out.lt g gm
            clear go go' gr gc' gf'
            have Y2 : Hid (Ext wr wr.drew) := Ext.drew _
            have NF : Hid (∀ i, i < w1.heap.size ∨ i = w2.heap.size ∨ i ∈ fz → i ∉ fq) := fun i hi hm => by
              have h8 := F5.out i hm
              rcases hi with h | h | h
              · omega
              · exact h8.2.1 h
              · exact h8.2.2 h
            have hkn : k < n' := by omega
            have hki : (k : Int) < n' := by omega
            go_wp2
            go_region_law (first | (go_simp; go_at_call 54; refine (slicesDelete_any gx x.length cx 0 j x _ GO.out hx0 hjx.1).mono ?_; rintro e w3 ⟨rfl, o3, g3⟩; have h9 := GR.out w3 _ _ o3 g3; have c9 := h9.1; have f9 := h9.2.1; have cB3 := ((B2.out.ext Y2.out).tchF h9.2.2.1 (NF.out _ (.inr (.inl rfl)))).cell; have H9 := hide h9; clear h9 o3 g3))
            all_goals
              go_wp2
              go_roundw
              case rel =>
                obtain ⟨_, _, ht, fq', hl, hs⟩ := H9.out
                have y1 := B2.out.lt
                have y2 := Y2.out
                have gF := F5.out g gm
                have nf := NF.out
                exact ⟨k + 1, fq', by omega, by go_num, by rw [← HN.out]; exact hl, fun i hi => F5.out i (hs i hi), (((P2.out.ext y2).keep (fun i hi => ht.block i (Nat.lt_of_lt_of_le (P2.out.lt i hi) y2.size) (nf i (.inr (.inr hi))))).keep (fun i hi => Below.heap_setCell _ _ _ _ (fun (e : i = g) => gF.2.2 (e ▸ hi)))), (((B2.out.ext y2).tchF ht (nf _ (.inr (.inl rfl)))).far (fun e => gF.2.1 e.symm) _), (((B1.out.ext y2).tchF ht (nf _ (.inl z1))).far (by simp; omega) _), Below.setCell ((X.out.trans y2).tchF ht (fun i hi => by have := F5.out i hi; omega)) (by simp <;> omega) _⟩
              case measure => simp [intOf]; omega
          · have ek : n' = k := by omega
            subst ek
            replace P1 : Hid (LO kdL 31 wr A6 c6 (d.2.map (cutJ j)) fq) := by have h8 := P1.out; rwa [dropN_all d.2 j n' (by rw [hn'.out]; exact Nat.le_refl _)] at h8
            have FR : Hid (kM.fr wr w1.heap.size wr.heap.size (.agg #[.slice A5 n c5, .slice A6 n' c6]) (d.1.map (cutJ j), d.2.map (cutJ j))) :=
              kM.mk (d := (d.1.map (cutJ j), d.2.map (cutJ j))) P2.out P1.out (by show n = (d.1.map (cutJ j)).length; rw [List.length_map, hn.out]) (by show n' = (d.2.map (cutJ j)).length; rw [List.length_map, hn'.out]) (fun i hi => ⟨(F6.out i hi).1, P2.out.lt i hi⟩) (fun i hi => ⟨(F5.out i hi).1, P1.out.lt i hi⟩) (fun i hi hm => (F5.out i hm).2.2 hi)
            have cB := B2.out.cell
            clear P1 P2 F5 F6 F3 HRW
            go_wp2_with fail
            refine (i.asMarks_any wr _ _ (kM.fr_rd FR.out) OKS.out).mono ?_
            rintro e w5 ⟨v5, rfl, hv1, hv2, x5⟩
            replace FR := hide (kM.fr_ext FR.out x5)
            have z6 := x5.size
            replace X := hide (X.out.trans x5)
            replace B1 := hide (B1.out.ext x5)
            have HV1 := hide hv1
            have HV2 := hide hv2
            clear x5 hv1 hv2 cB B2 HR
            have c1_ := B1.out.cell; have f1_ := B1.out.free
            cases hb : marksB (d.1.map (cutJ j), d.2.map (cutJ j))
            · have e5 := HV2.out hb
              have hf : Hid (F = (([], []), false)) := by show _ = _; rw [HF.out]; simp [ifMarks, hb]
              clear hb
              subst e5
              clear HV1 HV2
              unfold noMarks
              go_wp2
              refine bodyPost_ret (v := .tuple #[noMarks, .bool false]) (by simp [results, Tryz.results23, go_sem, c1_, noMarks]) rfl ?_
              rw [hf.out]
              exact ⟨noMarks, rfl, kM.fr_nil _ _ _, kM.ok_nil, Below.setCell (Below.setCell X.out (by simp) _) (by simp) _⟩
            · have e5 := HV1.out hb
              have hf : Hid (F = ((d.1.map (cutJ j), d.2.map (cutJ j)), true)) := by show _ = _; rw [HF.out]; simp [ifMarks, hb]
              clear hb
              subst e5
              clear HV1 HV2
              go_wp2
              refine bodyPost_ret (v := .tuple #[.agg #[.slice A5 n c5, .slice A6 n' c6], .bool true]) (by simp [results, Tryz.results23, go_sem, c1_]) rfl ?_
              rw [hf.out]
              refine ⟨_, rfl, kM.fr_mono (kM.fr_far (kM.fr_far FR.out _ (by simp; omega) _) _ (by simp; omega) _) (by omega) ?_, OKS.out, Below.setCell (Below.setCell X.out (by simp) _) (by simp) _⟩
              simp
              omega
end Go.Proofs.YtnokilofcdbjhaaGreatDoor
