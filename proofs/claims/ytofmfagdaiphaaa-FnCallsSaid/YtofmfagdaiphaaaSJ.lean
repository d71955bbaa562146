/- AddReview by the reference. -/
import Derived.Test.YtofmfagdaiphaaaSI
import Derived.Test.YtofmfagdaiphaaaSG
namespace Go.Proofs.Ytofmfagdaiphaaa
open Go.RowKit Go.Sort
set_option linter.unusedVariables false

theorem addRS_sheet {d : ShD} (r : RvD) (h : sheetB d = true) : sheetB (addRS d r) = (reviewB d.1 r && decide (d.2.2.length ≠ 20)) := by
  have h20 := (sheetB_wt h).2.2.2.2.2
  simp only [sheetB, Bool.and_eq_true] at h
  obtain ⟨⟨⟨⟨h1, h2⟩, h3⟩, h4⟩, h5⟩ := h
  show (cleanB d.1 && ((d.2.1.length : Int) == 3) && decide (((d.2.2 ++ [r]).length : Int) ≤ 20) && d.2.1.all (votesB d.1) && (d.2.2 ++ [r]).all (reviewB d.1)) = _
  rw [h1, h2, h4, List.all_append, h5]
  have e : decide (((d.2.2 ++ [r]).length : Int) ≤ 20) = decide (d.2.2.length ≠ 20) := by
    rw [List.length_append]
    apply decide_eq_decide.2
    show ((d.2.2.length + 1 : Nat) : Int) ≤ 20 ↔ _
    omega
  rw [e]
  simp [Bool.and_comm]

set_option maxRecDepth 100000 in
set_option maxHeartbeats 4000000 in
theorem s.AddReview_of (CP : ∀ (w : World) (v : Value) (d : ShD), kSh.rd w v d → kSh.ok d → Hid (d.2.1.length = 3) → Calls Try.prog 42 #[v] w fun e w' => ∃ v', e = .returned v' ∧ kSh.fr w' w.heap.size w'.heap.size v' d ∧ Ext w w') (w : World) (v : Value) (d : ShD) (r : RvD) (h : kSm.rd w v d) (hok : kSm.ok d) :
    Calls Try.prog 8 #[v, .agg #[.int .i64 r.1, .int .i64 r.2.1, .int .i64 r.2.2]] w fun e w' => ∃ v0, e = .returned (.tuple #[v0, .bool (addRF d r).2]) ∧ kSm.fr w' w.heap.size w'.heap.size v0 (addRF d r).1 ∧ kSm.ok (addRF d r).1 ∧ Ext w w' := by
  have OKF := hide (addRF_ok d r)
  have CPY := hide (fun (wq : World) (xq : Ext w wq) (h3 : Hid (d.2.1.length = 3)) => CP wq v d (kSh.rd_ext h xq) hok h3)
  obtain ⟨A, c, A', c', D, e, rfl, h1, h2, h3⟩ := kSh.lr h
  obtain ⟨F, hF⟩ : ∃ F, Hid (addRF d r = F) := ⟨_, rfl⟩
  rw [hF.out] at OKF ⊢
  obtain ⟨W0, hW0⟩ : ∃ W0, Hid (W0 = ((w.alloc (.cells #[.slice A d.1.length c, .slice A' d.2.1.length c', .slice D d.2.2.length e] 28)).alloc (.cells #[.int .i64 r.1, .int .i64 r.2.1, .int .i64 r.2.2] 30)).alloc (.cells #[.slice none 0 0, .slice none 0 0, .slice none 0 0] 28)) := ⟨_, rfl⟩
  have X0 : Hid (Ext w W0) := by rw [hW0.out]; exact ((Ext.alloc w _).trans (Ext.alloc _ _)).trans (Ext.alloc _ _)
  have B0 : Hid (Blk W0 w.heap.size #[.slice A d.1.length c, .slice A' d.2.1.length c', .slice D d.2.2.length e] 28) := by rw [hW0.out]; exact ((Blk.new rfl _ _).alloc _).alloc _
  have V0 : Hid (Blk W0 (w.heap.size + 1) #[.int .i64 r.1, .int .i64 r.2.1, .int .i64 r.2.2] 30) := by rw [hW0.out]; exact (Blk.new (by simp) _ _).alloc _
  have R0 : Hid (Blk W0 (w.heap.size + 1 + 1) #[.slice none 0 0, .slice none 0 0, .slice none 0 0] 28) := by rw [hW0.out]; exact Blk.new (by simp) _ _
  have IS := hide (s.caGood_m W0 _ d (kSh.rd_ext h X0.out) hok)
  have CR := hide (fun (wq : World) (xq : Ext w wq) (hs : sheetB d = true) => s.caReview_any wq A c w.heap.size d.1 r (h1.ext xq (Nat.le_refl _)) xq.size (by have := sheetB_wt hs; omega))
  have ac1 := h3.1; have ac2 := h3.2.1
  clear CP h hok h1 h2 h3
  obtain ⟨n, hn⟩ : ∃ n, Hid (d.1.length = n) := ⟨_, rfl⟩
  obtain ⟨n', hn'⟩ : ∃ n, Hid (d.2.1.length = n) := ⟨_, rfl⟩
  obtain ⟨m', hm'⟩ : ∃ n, Hid (d.2.2.length = n) := ⟨_, rfl⟩
  rw [hn.out, hn'.out, hm'.out] at hW0 B0 IS CPY ⊢
  rw [hn.out] at CR
  rw [hm'.out] at ac1
  go_enter Try.func8, Try.ntmps8
  go_wp2_with fail
  rw [← hW0.out]
  clear hW0
  refine IS.out.mono ?_
  rintro e1 w1 ⟨rfl, x1⟩
  have X1 := hide (X0.out.trans x1)
  have B1 := hide (B0.out.ext x1)
  have V1 := hide (V0.out.ext x1)
  have R1 := hide (R0.out.ext x1)
  have zR := R0.out.lt
  have z0 := x1.size
  clear x1 IS B0 R0 X0 V0
  have cB := B1.out.cell
  have cV := V1.out.cell
  have cR := R1.out.cell; have fR := R1.out.free
  cases hs : sheetB d
  · have HF : Hid (F = (noSheet, false)) := by show _ = _; rw [← hF.out]; simp [addRF, hs]
    clear hs
    go_wp2
    refine bodyPost_ret (v := .tuple #[.agg #[.slice none 0 0, .slice none 0 0, .slice none 0 0], .bool false]) (by simp [results, Try.results8, go_sem, cR]) rfl ?_
    have hf := HF.out
    subst hf
    exact ⟨_, rfl, kSm_none _ _ _, OKF.out, Ext.set3 X1.out (by omega) _ _ _⟩
  have SB := hide hs
  have h20 : m' ≤ 20 := by have := (sheetB_wt hs).2.2.2.2.2; rw [hm'.out] at this; exact this
  have h33 : Hid (n' = 3) := by show _ = _; have := (sheetB_wt hs).2.2.2.2.1; rw [hn'.out] at this; exact this
  have AS := addRS_sheet r hs
  rw [hm'.out] at AS
  have CR2 := hide (CR.out w1 X1.out hs)
  clear CR
  clear hs
  cases hr : reviewB d.1 r
  · have HF : Hid (F = (noSheet, false)) := by show _ = _; rw [← hF.out]; simp [addRF, AS, hr]
    rw [hr] at CR2
    clear AS hr
    go_wp2_with (first | (go_at_call 41; refine CR2.out.mono ?_; rintro e w5 ⟨rfl, x5⟩; have R5 := R1.out.ext x5; have c5r := R5.cell; have f5r := R5.free; clear R5; have c5_ := (B1.out.ext x5).cell; have Y5 := hide x5; clear x5))
    have z5 := Y5.out.size
    have cR5 := (R1.out.ext Y5.out).cell; have fR5 := (R1.out.ext Y5.out).free
    refine bodyPost_ret (v := .tuple #[.agg #[.slice none 0 0, .slice none 0 0, .slice none 0 0], .bool false]) (by simp [results, Try.results8, go_sem, cR5]) rfl ?_
    have hf := HF.out
    subst hf
    exact ⟨_, rfl, kSm_none _ _ _, OKF.out, Ext.set3 (X1.out.trans Y5.out) (by omega) _ _ _⟩
  rw [hr] at CR2
  by_cases hl20 : m' = 20
  · have HF : Hid (F = (noSheet, false)) := by show _ = _; rw [← hF.out]; simp [addRF, AS, hl20]
    have hl21 : (m' : Int) = 20 := by omega
    clear AS hr hl20
    go_wp2_with (first | (go_at_call 41; refine CR2.out.mono ?_; rintro e w5 ⟨rfl, x5⟩; have R5 := R1.out.ext x5; have c5r := R5.cell; have f5r := R5.free; clear R5; have c5_ := (B1.out.ext x5).cell; have Y5 := hide x5; clear x5))
    have z5 := Y5.out.size
    have cR5 := (R1.out.ext Y5.out).cell; have fR5 := (R1.out.ext Y5.out).free
    refine bodyPost_ret (v := .tuple #[.agg #[.slice none 0 0, .slice none 0 0, .slice none 0 0], .bool false]) (by simp [results, Try.results8, go_sem, cR5]) rfl ?_
    have hf := HF.out
    subst hf
    exact ⟨_, rfl, kSm_none _ _ _, OKF.out, Ext.set3 (X1.out.trans Y5.out) (by omega) _ _ _⟩
  have HFx : Hid (F = (addRS d r, true)) := by show _ = _; rw [← hF.out]; simp [addRF, AS, SB.out, hr]; omega
  have hl21 : (m' : Int) ≠ 20 := by omega
  clear AS hr
  go_wp2_with (first | (go_at_call 41; refine CR2.out.mono ?_; rintro e w5 ⟨rfl, x5⟩; have R5 := R1.out.ext x5; have c5r := R5.cell; have f5r := R5.free; clear R5; have c5_ := (B1.out.ext x5).cell; have Y5 := hide x5; clear x5))
  have z5 := Y5.out.size
  have X1' := hide (X1.out.trans Y5.out)
  have V1' := hide (V1.out.ext Y5.out)
  have R1' := hide (R1.out.ext Y5.out)
  have zz0 : W0.heap.size ≤ w5.heap.size := by omega
  clear X1 V1 R1 B1 c5_ c5r f5r Y5 cB cV cR fR
  have X1 := X1'; have V1 := V1'; have R1 := R1'
  clear X1' V1' R1' z5 z0
  refine (CPY.out w5 X1.out (by first | exact hide h33.out | exact hide trivial | exact hide rfl)).mono ?_
  rintro e1 w2 ⟨v2, rfl, hfr, x2⟩
  obtain ⟨A3, c3, A5, c5, A4, c4, f1, f2, f3, rfl, l1, l2, l3, g1, g2, g3⟩ := kSm_parts hfr
  rw [hn.out, hn'.out, hm'.out]
  have cp := l3.cap
  rw [hm'.out] at cp
  have cp1 := cp.1; have cp2 := cp.2
  obtain ⟨W3, hW3⟩ : ∃ W3, Hid (W3 = (w2.alloc (.cells #[.slice A3 n c3, .slice A5 n' c5, .slice A4 m' c4] 28)).alloc (.cells #[.int .i64 r.1, .int .i64 r.2.1, .int .i64 r.2.2] 30)) := ⟨_, rfl⟩
  have Y3 : Hid (Ext w2 W3) := by rw [hW3.out]; exact (Ext.alloc w2 _).trans (Ext.alloc _ _)
  have S3 : Hid (Blk W3 w2.heap.size #[.slice A3 n c3, .slice A5 n' c5, .slice A4 m' c4] 28) := by rw [hW3.out]; exact (Blk.new rfl _ _).alloc _
  have N3 : Hid (Blk W3 (w2.heap.size + 1) #[.int .i64 r.1, .int .i64 r.2.1, .int .i64 r.2.2] 30) := by rw [hW3.out]; exact Blk.new (by simp) _ _
  have G1 := hide g1; have G2 := hide g2; have G3 := hide g3
  have LA := hide (l1.ext Y3.out)
  have LB := hide (l2.ext Y3.out)
  have LC := hide (l3.ext Y3.out)
  have X2 := hide ((X1.out.trans x2).trans Y3.out)
  have R2 := hide ((R1.out.ext x2).ext Y3.out)
  have V2 := hide ((V1.out.ext x2).alloc (.cells #[.slice A3 n c3, .slice A5 n' c5, .slice A4 m' c4] 28))
  have S2 := hide (Blk.new (w := w2) rfl #[.slice A3 n c3, .slice A5 n' c5, .slice A4 m' c4] 28)
  have z2 := x2.size
  have z3 : Hid (W3.heap.size = w2.heap.size + 1 + 1) := by rw [hW3.out]; show _ = _; simp
  have zz3 := z3.out
  clear hfr x2 g1 g2 g3 l1 l2 l3 CPY cp
  have cS := S2.out.cell
  have cV := V2.out.cell
  go_wp2_with (at_builtin; rw [← hW3.out]; refine wpList_append_LO (K := kdRv) rfl (.tmp 27) (.tmp 29) rfl elemN_rv (by decide) hm'.out.symm rfl rfl LC.out (kdRv.mkOwn W3 r) ?d1 ?d2 ?d3 ?d4 ?_)
  case d1 => simp
  case d2 =>
    intro j u hu
    have := N3.out.cell j
    rw [Nat.zero_add, this]
    rw [← hu]
    match j with
    | 0 => rfl
    | 1 => rfl
    | 2 => rfl
    | j + 3 => rfl
  case d3 => omega
  case d4 => omega
  intro A10 c10 w10 fp10 hap
  clear cS cV
  have s3n : w2.heap.size ∉ f3 := fun hm => by have := G3.out _ hm; omega
  have r3n : w.heap.size + 1 + 1 ∉ f3 := fun hm => by have := G3.out _ hm; omega
  have S10 := hide (S3.out.tchF hap.tch s3n)
  have R10 := hide (R2.out.tchF hap.tch r3n)
  have X10 := hide (X2.out.tchF hap.tch (fun q hq => by have := G3.out q hq; omega))
  have O10 := hide hap.own
  have F10 : Hid (∀ q ∈ fp10, w5.heap.size ≤ q ∧ q ≠ w2.heap.size ∧ q ∉ f1 ∧ q ∉ f2) := fun q hq => by
    rcases hap.sub q hq with h | h | h
    · have := G3.out q h
      exact ⟨this.1, by omega, fun hm => (G1.out q hm).2.2.2 h, fun hm => (G2.out q hm).2.2 h⟩
    · simp at h
    · refine ⟨by omega, by omega, fun hm => ?_, fun hm => ?_⟩
      · have := G1.out q hm; omega
      · have := G2.out q hm; omega
  have LA10 := hide (LA.out.keep (w' := w10) (fun q hq => hap.tch.block q (LA.out.lt q hq) (G1.out q hq).2.2.2))
  have LB10 := hide (LB.out.keep (w' := w10) (fun q hq => hap.tch.block q (LB.out.lt q hq) (G2.out q hq).2.2))
  have z10 : W3.heap.size ≤ w10.heap.size := hap.tch.size
  clear hap LA LB LC S3 N3 R2 X2 V2 S2
  have cS := S10.out.cell; have fS := S10.out.free
  have XN := hide (X10.out.setC (p := ⟨w2.heap.size, 2, none⟩) (by show w.heap.size ≤ w2.heap.size; omega) (.slice A10 (m' + 1) c10))
  have SN : Hid (Blk (w10.setCell ⟨w2.heap.size, 2, none⟩ (.slice A10 (m' + 1) c10)) w2.heap.size #[.slice A3 n c3, .slice A5 n' c5, .slice A10 (m' + 1) c10] 28) := S10.out.set 2 _
  have RN := hide (R10.out.far (p := ⟨w2.heap.size, 2, none⟩) (by show w.heap.size + 1 + 1 ≠ w2.heap.size; omega) (.slice A10 (m' + 1) c10))
  have LAN := hide (LA10.out.keep (w' := w10.setCell ⟨w2.heap.size, 2, none⟩ (.slice A10 (m' + 1) c10)) (fun q hq => Below.heap_setCell _ _ _ _ (by have := G1.out q hq; show q ≠ w2.heap.size; omega)))
  have LBN := hide (LB10.out.keep (w' := w10.setCell ⟨w2.heap.size, 2, none⟩ (.slice A10 (m' + 1) c10)) (fun q hq => Below.heap_setCell _ _ _ _ (by have := G2.out q hq; show q ≠ w2.heap.size; omega)))
  have LCN := hide (O10.out.keep (w' := w10.setCell ⟨w2.heap.size, 2, none⟩ (.slice A10 (m' + 1) c10)) (fun q hq => Below.heap_setCell _ _ _ _ (F10.out q hq).2.1))
  have hl1 : (d.2.2 ++ [r]).length = m' + 1 := by rw [List.length_append, hm'.out]; rfl
  have HF := HFx
  have X12 := XN; have S12 := SN; have R12 := RN; have LA12 := LAN; have LB12 := LBN; have LC12 := LCN
  clear XN SN RN LAN LBN LCN
  have gr : w2.heap.size ≠ w.heap.size + 1 + 1 := by omega
  have cR := R10.out.cell; have fR := R10.out.free
  go_wp2_with fail
  have cE := (R12.out.set3 (.slice A3 n c3) (.slice A5 n' c5) (.slice A10 (m' + 1) c10)).cell
  refine bodyPost_ret (v := .tuple #[.agg #[.slice A3 n c3, .slice A5 n' c5, .slice A10 (m' + 1) c10], .bool true]) (by simp [results, Try.results8, go_sem, cE]) rfl ?_
  have hf := HF.out
  subst hf
  have k1 : ∀ q, w5.heap.size ≤ q → q ≠ w.heap.size + 1 + 1 := fun q hq => by omega
  have ho := kdSh.mkOwn (d := addRS d r)
    (LA12.out.keep (fun q hq => heap_set3 (g := w.heap.size + 1 + 1) (k1 q (G1.out q hq).1) (.slice A3 n c3) (.slice A5 n' c5) (.slice A10 (m' + 1) c10)))
    (LB12.out.keep (fun q hq => heap_set3 (g := w.heap.size + 1 + 1) (k1 q (G2.out q hq).1) (.slice A3 n c3) (.slice A5 n' c5) (.slice A10 (m' + 1) c10)))
    (LC12.out.keep (fun q hq => heap_set3 (g := w.heap.size + 1 + 1) (k1 q (F10.out q hq).1) (.slice A3 n c3) (.slice A5 n' c5) (.slice A10 (m' + 1) c10)))
    (fun q hq => (G1.out q hq).2.2.1) (fun q hq hm => (F10.out q hm).2.2.1 hq) (fun q hq hm => (F10.out q hm).2.2.2 hq)
  have hfr := kSm_fr (lo := w.heap.size) ho (fun q hq => by
    rw [List.mem_append, List.mem_append] at hq
    rcases hq with hq | hq | hq
    · have := (G1.out q hq).1; omega
    · have := (G2.out q hq).1; omega
    · have := (F10.out q hq).1; omega)
  refine ⟨_, rfl, ?_, OKF.out, Ext.set3 X12.out (by omega) _ _ _⟩
  simp only [addRS, hn.out, hn'.out, hl1] at hfr
  exact hfr
end Go.Proofs.Ytofmfagdaiphaaa
