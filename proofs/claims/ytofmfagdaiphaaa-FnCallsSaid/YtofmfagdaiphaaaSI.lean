/- AddReview by the program. -/
import Derived.Test.YtofmfagdaiphaaaSE
namespace Go.Proofs.Ytofmfagdaiphaaa
open Go.RowKit Go.Sort
set_option linter.unusedVariables false

def addRS (d : ShD) (r : RvD) : ShD := (d.1, d.2.1, d.2.2 ++ [r])
def addRF (d : ShD) (r : RvD) : ShD × Bool := if sheetB d && sheetB (addRS d r) then (addRS d r, true) else (noSheet, false)
theorem addRS_wt (d : ShD) (r : RvD) : wtL kdRv (addRS d r).2.2 = wtL kdRv d.2.2 + 1 := by
  show wtL kdRv (d.2.2 ++ [r]) = _
  rw [wtL_rv, wtL_rv, List.length_append]
  rfl
theorem addRS_ok {d : ShD} (r : RvD) (h : sheetB d = true) : kSm.ok (addRS d r) := by
  have := sheetB_wt h
  have h2 := addRS_wt d r
  exact kSm_ok (by show wtL kdItem d.1 ≤ 1000; omega) (by show wtL kdLL d.2.1 ≤ 1000; omega) (by omega)
theorem addRF_ok (d : ShD) (r : RvD) : kSm.ok (addRF d r).1 := by
  unfold addRF
  split
  · rename_i h
    simp only [Bool.and_eq_true] at h
    exact addRS_ok r h.1
  · exact Nat.zero_le _
theorem kSm_rdOf {w : World} {d : ShD} {A A' D : Option Addr} {c c' e : Nat} {f1 f2 f3 : List Nat} (h1 : LO kdItem 50 w A c d.1 f1) (h2 : LO kdLL 43 w A' c' d.2.1 f2) (h3 : LO kdRv 30 w D e d.2.2 f3) (d12 : ∀ i ∈ f1, i ∉ f2) (d13 : ∀ i ∈ f1, i ∉ f3) (d23 : ∀ i ∈ f2, i ∉ f3) : kSh.rd w (.agg #[.slice A d.1.length c, .slice A' d.2.1.length c', .slice D d.2.2.length e]) d :=
  ⟨_, rfl, kdSh.own_rd (kdSh.mkOwn h1 h2 h3 d12 d13 d23)⟩

set_option maxRecDepth 100000 in
set_option maxHeartbeats 4000000 in
theorem i.AddReview_of (CP : ∀ (w : World) (v : Value) (d : ShD), kSh.rd w v d → kSh.ok d → Calls Try.prog 39 #[v] w fun e w' => ∃ v', e = .returned v' ∧ kSh.fr w' w.heap.size w'.heap.size v' d ∧ Ext w w') (w : World) (v : Value) (d : ShD) (r : RvD) (h : kSm.rd w v d) (hok : kSm.ok d) :
    Calls Try.prog 7 #[v, .agg #[.int .i64 r.1, .int .i64 r.2.1, .int .i64 r.2.2]] w fun e w' => ∃ v0, e = .returned (.tuple #[v0, .bool (addRF d r).2]) ∧ kSm.fr w' w.heap.size w'.heap.size v0 (addRF d r).1 ∧ kSm.ok (addRF d r).1 ∧ Ext w w' := by
  have OKF := hide (addRF_ok d r)
  have CPY := hide (fun (wq : World) (xq : Ext w wq) => CP wq v d (kSh.rd_ext h xq) hok)
  obtain ⟨A, c, A', c', D, e, rfl, h1, h2, h3⟩ := kSh.lr h
  obtain ⟨F, hF⟩ : ∃ F, Hid (addRF d r = F) := ⟨_, rfl⟩
  rw [hF.out] at OKF ⊢
  obtain ⟨W0, hW0⟩ : ∃ W0, Hid (W0 = ((w.alloc (.cells #[.slice A d.1.length c, .slice A' d.2.1.length c', .slice D d.2.2.length e] 28)).alloc (.cells #[.int .i64 r.1, .int .i64 r.2.1, .int .i64 r.2.2] 30)).alloc (.cells #[.slice none 0 0, .slice none 0 0, .slice none 0 0] 28)) := ⟨_, rfl⟩
  have X0 : Hid (Ext w W0) := by rw [hW0.out]; exact ((Ext.alloc w _).trans (Ext.alloc _ _)).trans (Ext.alloc _ _)
  have B0 : Hid (Blk W0 w.heap.size #[.slice A d.1.length c, .slice A' d.2.1.length c', .slice D d.2.2.length e] 28) := by rw [hW0.out]; exact ((Blk.new rfl _ _).alloc _).alloc _
  have V0 : Hid (Blk W0 (w.heap.size + 1) #[.int .i64 r.1, .int .i64 r.2.1, .int .i64 r.2.2] 30) := by rw [hW0.out]; exact (Blk.new (by simp) _ _).alloc _
  have R0 : Hid (Blk W0 (w.heap.size + 1 + 1) #[.slice none 0 0, .slice none 0 0, .slice none 0 0] 28) := by rw [hW0.out]; exact Blk.new (by simp) _ _
  have IS := hide (i.IsSheet_m W0 _ d (kSh.rd_ext h X0.out) hok)
  clear CP h hok h1 h2 h3
  obtain ⟨n, hn⟩ : ∃ n, Hid (d.1.length = n) := ⟨_, rfl⟩
  obtain ⟨n', hn'⟩ : ∃ n, Hid (d.2.1.length = n) := ⟨_, rfl⟩
  obtain ⟨m', hm'⟩ : ∃ n, Hid (d.2.2.length = n) := ⟨_, rfl⟩
  rw [hn.out, hn'.out, hm'.out] at hW0 B0 IS CPY ⊢
  go_enter Try.func7, Try.ntmps7
  go_wp2_with fail
  rw [← hW0.out]
  clear hW0
  refine IS.out.mono ?_
  rintro e1 w1 ⟨rfl, x1⟩
  have X1 := hide (X0.out.trans x1)
  have B1 := hide (B0.out.ext x1)
  have V1 := hide (V0.out.ext x1)
  have R1 := hide (R0.out.ext x1)
  have zR := R0.out.lt
  have z0 := x1.size
  clear x1 IS B0 R0 X0 V0
  have cB := B1.out.cell
  have cV := V1.out.cell
  have cR := R1.out.cell; have fR := R1.out.free
  cases hs : sheetB d
  · have HF : Hid (F = (noSheet, false)) := by show _ = _; rw [← hF.out]; simp [addRF, hs]
    clear hs
    go_wp2
    refine bodyPost_ret (v := .tuple #[.agg #[.slice none 0 0, .slice none 0 0, .slice none 0 0], .bool false]) (by simp [results, Try.results7, go_sem, cR]) rfl ?_
    have hf := HF.out
    subst hf
    exact ⟨_, rfl, kSm_none _ _ _, OKF.out, Ext.set3 X1.out (by omega) _ _ _⟩
  have SB := hide hs
  have h20 : m' ≤ 20 := by have := (sheetB_wt hs).2.2.2.2.2; rw [hm'.out] at this; exact this
  clear hs
  go_wp2_with fail
  refine (CPY.out w1 X1.out).mono ?_
  rintro e1 w2 ⟨v2, rfl, hfr, x2⟩
  obtain ⟨A3, c3, A5, c5, A4, c4, f1, f2, f3, rfl, l1, l2, l3, g1, g2, g3⟩ := kSm_parts hfr
  rw [hn.out, hn'.out, hm'.out]
  have cp := l3.cap
  rw [hm'.out] at cp
  have cp1 := cp.1; have cp2 := cp.2
  obtain ⟨W3, hW3⟩ : ∃ W3, Hid (W3 = (w2.alloc (.cells #[.slice A3 n c3, .slice A5 n' c5, .slice A4 m' c4] 28)).alloc (.cells #[.int .i64 r.1, .int .i64 r.2.1, .int .i64 r.2.2] 30)) := ⟨_, rfl⟩
  have Y3 : Hid (Ext w2 W3) := by rw [hW3.out]; exact (Ext.alloc w2 _).trans (Ext.alloc _ _)
  have S3 : Hid (Blk W3 w2.heap.size #[.slice A3 n c3, .slice A5 n' c5, .slice A4 m' c4] 28) := by rw [hW3.out]; exact (Blk.new rfl _ _).alloc _
  have N3 : Hid (Blk W3 (w2.heap.size + 1) #[.int .i64 r.1, .int .i64 r.2.1, .int .i64 r.2.2] 30) := by rw [hW3.out]; exact Blk.new (by simp) _ _
  have G1 := hide g1; have G2 := hide g2; have G3 := hide g3
  have LA := hide (l1.ext Y3.out)
  have LB := hide (l2.ext Y3.out)
  have LC := hide (l3.ext Y3.out)
  have X2 := hide ((X1.out.trans x2).trans Y3.out)
  have R2 := hide ((R1.out.ext x2).ext Y3.out)
  have V2 := hide ((V1.out.ext x2).alloc (.cells #[.slice A3 n c3, .slice A5 n' c5, .slice A4 m' c4] 28))
  have S2 := hide (Blk.new (w := w2) rfl #[.slice A3 n c3, .slice A5 n' c5, .slice A4 m' c4] 28)
  have z2 := x2.size
  have z3 : Hid (W3.heap.size = w2.heap.size + 1 + 1) := by rw [hW3.out]; show _ = _; simp
  have zz3 := z3.out
  clear cB cR fR cV hfr x2 g1 g2 g3 l1 l2 l3 CPY cp
  have cS := S2.out.cell
  have cV := V2.out.cell
  go_wp2_with (at_builtin; rw [← hW3.out]; refine wpList_append_LO (K := kdRv) rfl (.tmp 14) (.tmp 16) rfl elemN_rv (by decide) hm'.out.symm rfl rfl LC.out (kdRv.mkOwn W3 r) ?d1 ?d2 ?d3 ?d4 ?_)
  case d1 => simp
  case d2 =>
    intro j u hu
    have := N3.out.cell j
    rw [Nat.zero_add, this]
    rw [← hu]
    match j with
    | 0 => rfl
    | 1 => rfl
    | 2 => rfl
    | j + 3 => rfl
  case d3 => omega
  case d4 => omega
  intro A10 c10 w10 fp10 hap
  clear cS cV
  have s3n : w2.heap.size ∉ f3 := fun hm => by have := G3.out _ hm; omega
  have r3n : w.heap.size + 1 + 1 ∉ f3 := fun hm => by have := G3.out _ hm; omega
  have S10 := hide (S3.out.tchF hap.tch s3n)
  have R10 := hide (R2.out.tchF hap.tch r3n)
  have X10 := hide (X2.out.tchF hap.tch (fun q hq => by have := G3.out q hq; omega))
  have O10 := hide hap.own
  have F10 : Hid (∀ q ∈ fp10, w1.heap.size ≤ q ∧ q ≠ w2.heap.size ∧ q ∉ f1 ∧ q ∉ f2) := fun q hq => by
    rcases hap.sub q hq with h | h | h
    · have := G3.out q h
      exact ⟨this.1, by omega, fun hm => (G1.out q hm).2.2.2 h, fun hm => (G2.out q hm).2.2 h⟩
    · simp at h
    · refine ⟨by omega, by omega, fun hm => ?_, fun hm => ?_⟩
      · have := G1.out q hm; omega
      · have := G2.out q hm; omega
  have LA10 := hide (LA.out.keep (w' := w10) (fun q hq => hap.tch.block q (LA.out.lt q hq) (G1.out q hq).2.2.2))
  have LB10 := hide (LB.out.keep (w' := w10) (fun q hq => hap.tch.block q (LB.out.lt q hq) (G2.out q hq).2.2))
  have z10 : W3.heap.size ≤ w10.heap.size := hap.tch.size
  clear hap LA LB LC S3 N3 R2 X2 V2 S2
  have cS := S10.out.cell; have fS := S10.out.free
  have XN := hide (X10.out.setC (p := ⟨w2.heap.size, 2, none⟩) (by show w.heap.size ≤ w2.heap.size; omega) (.slice A10 (m' + 1) c10))
  have SN : Hid (Blk (w10.setCell ⟨w2.heap.size, 2, none⟩ (.slice A10 (m' + 1) c10)) w2.heap.size #[.slice A3 n c3, .slice A5 n' c5, .slice A10 (m' + 1) c10] 28) := S10.out.set 2 _
  have RN := hide (R10.out.far (p := ⟨w2.heap.size, 2, none⟩) (by show w.heap.size + 1 + 1 ≠ w2.heap.size; omega) (.slice A10 (m' + 1) c10))
  have LAN := hide (LA10.out.keep (w' := w10.setCell ⟨w2.heap.size, 2, none⟩ (.slice A10 (m' + 1) c10)) (fun q hq => Below.heap_setCell _ _ _ _ (by have := G1.out q hq; show q ≠ w2.heap.size; omega)))
  have LBN := hide (LB10.out.keep (w' := w10.setCell ⟨w2.heap.size, 2, none⟩ (.slice A10 (m' + 1) c10)) (fun q hq => Below.heap_setCell _ _ _ _ (by have := G2.out q hq; show q ≠ w2.heap.size; omega)))
  have LCN := hide (O10.out.keep (w' := w10.setCell ⟨w2.heap.size, 2, none⟩ (.slice A10 (m' + 1) c10)) (fun q hq => Below.heap_setCell _ _ _ _ (F10.out q hq).2.1))
  have hl1 : (d.2.2 ++ [r]).length = m' + 1 := by rw [List.length_append, hm'.out]; rfl
  have IS2 : Hid (Calls Try.prog 11 #[.agg #[.slice A3 n c3, .slice A5 n' c5, .slice A10 (m' + 1) c10]] (w10.setCell ⟨w2.heap.size, 2, none⟩ (.slice A10 (m' + 1) c10)) fun e w' => e = .returned (.bool (sheetB (addRS d r))) ∧ Ext (w10.setCell ⟨w2.heap.size, 2, none⟩ (.slice A10 (m' + 1) c10)) w') := by
    have hr := kSm_rdOf (d := addRS d r) LAN.out LBN.out LCN.out (fun q hq => (G1.out q hq).2.2.1) (fun q hq hm => (F10.out q hm).2.2.1 hq) (fun q hq hm => (F10.out q hm).2.2.2 hq)
    have := i.IsSheet_m _ _ (addRS d r) hr (addRS_ok r SB.out)
    simp only [addRS, hn.out, hn'.out, hl1] at this
    exact this
  go_wp2_with fail
  generalize hw11 : w10.setCell ⟨w2.heap.size, 2, none⟩ (.slice A10 (m' + 1) c10) = w11 at *
  refine IS2.out.mono ?_
  rintro e1 w12 ⟨rfl, x12⟩
  have X12 := hide (XN.out.trans x12)
  have S12 := hide (SN.out.ext x12)
  have R12 := hide (RN.out.ext x12)
  have LA12 := hide (LAN.out.ext x12)
  have LB12 := hide (LBN.out.ext x12)
  have LC12 := hide (LCN.out.ext x12)
  clear x12 IS2 XN SN RN LAN LBN LCN cS fS hw11
  have cS := S12.out.cell
  have cR := R12.out.cell; have fR := R12.out.free
  cases hs2 : sheetB (addRS d r)
  · have HF : Hid (F = (noSheet, false)) := by show _ = _; rw [← hF.out]; simp [addRF, hs2]
    clear hs2
    go_wp2
    refine bodyPost_ret (v := .tuple #[.agg #[.slice none 0 0, .slice none 0 0, .slice none 0 0], .bool false]) (by simp [results, Try.results7, go_sem, cR]) rfl ?_
    have hf := HF.out
    subst hf
    exact ⟨_, rfl, kSm_none _ _ _, OKF.out, Ext.set3 X12.out (by omega) _ _ _⟩
  have HF : Hid (F = (addRS d r, true)) := by show _ = _; rw [← hF.out]; simp [addRF, hs2, SB.out]
  have gr : w2.heap.size ≠ w.heap.size + 1 + 1 := by omega
  clear hs2
  go_wp2_with fail
  have cE := (R12.out.set3 (.slice A3 n c3) (.slice A5 n' c5) (.slice A10 (m' + 1) c10)).cell
  refine bodyPost_ret (v := .tuple #[.agg #[.slice A3 n c3, .slice A5 n' c5, .slice A10 (m' + 1) c10], .bool true]) (by simp [results, Try.results7, go_sem, cE]) rfl ?_
  have hf := HF.out
  subst hf
  have k1 : ∀ q, w1.heap.size ≤ q → q ≠ w.heap.size + 1 + 1 := fun q hq => by omega
  have ho := kdSh.mkOwn (d := addRS d r)
    (LA12.out.keep (fun q hq => heap_set3 (g := w.heap.size + 1 + 1) (k1 q (G1.out q hq).1) (.slice A3 n c3) (.slice A5 n' c5) (.slice A10 (m' + 1) c10)))
    (LB12.out.keep (fun q hq => heap_set3 (g := w.heap.size + 1 + 1) (k1 q (G2.out q hq).1) (.slice A3 n c3) (.slice A5 n' c5) (.slice A10 (m' + 1) c10)))
    (LC12.out.keep (fun q hq => heap_set3 (g := w.heap.size + 1 + 1) (k1 q (F10.out q hq).1) (.slice A3 n c3) (.slice A5 n' c5) (.slice A10 (m' + 1) c10)))
    (fun q hq => (G1.out q hq).2.2.1) (fun q hq hm => (F10.out q hm).2.2.1 hq) (fun q hq hm => (F10.out q hm).2.2.2 hq)
  have hfr := kSm_fr (lo := w.heap.size) ho (fun q hq => by
    rw [List.mem_append, List.mem_append] at hq
    rcases hq with hq | hq | hq
    · have := (G1.out q hq).1; omega
    · have := (G2.out q hq).1; omega
    · have := (F10.out q hq).1; omega)
  refine ⟨_, rfl, ?_, OKF.out, Ext.set3 X12.out (by omega) _ _ _⟩
  simp only [addRS, hn.out, hn'.out, hl1] at hfr
  exact hfr
end Go.Proofs.Ytofmfagdaiphaaa
