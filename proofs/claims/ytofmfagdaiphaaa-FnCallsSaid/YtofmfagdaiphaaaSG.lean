/- VoteCall by the reference. -/
import Derived.Test.YtofmfagdaiphaaaSE
namespace Go.Proofs.Ytofmfagdaiphaaa
open Go.RowKit Go.Sort
set_option linter.unusedVariables false

theorem s.caVote_any (n : Int) (w : World) :
    Calls Try.prog 51 #[.int .i64 n] w fun e w' => e = .returned (.bool (inB (-1) 3 n)) ∧ w = w' := by
  go_enter Try.func51, Try.ntmps51
  go_wp2_with (go_at_call 50; refine (s.l1In_any _ _ _ _).mono ?_; rintro e w' ⟨rfl, rfl⟩)
  go_ret
  exact ⟨rfl, rfl⟩

set_option maxRecDepth 100000 in
set_option maxHeartbeats 4000000 in
theorem s.VoteCall_of (CP : ∀ (w : World) (v : Value) (d : ShD), kSh.rd w v d → kSh.ok d → Hid (d.2.1.length = 3) → Calls Try.prog 42 #[v] w fun e w' => ∃ v', e = .returned v' ∧ kSh.fr w' w.heap.size w'.heap.size v' d ∧ Ext w w') (w : World) (v : Value) (d : ShD) (y1 y2 y3 y4 : Int) (h : kSm.rd w v d) (hok : kSm.ok d) (_h1 : InR y1) (_h2 : InR y2) (_h3 : InR y3) (_h4 : InR y4) :
    Calls Try.prog 14 #[v, .int .i64 y1, .int .i64 y2, .int .i64 y3, .int .i64 y4] w fun e w' => ∃ v0, e = .returned (.tuple #[v0, .bool (voteCF d y1 y2 y3 y4).2]) ∧ kSm.fr w' w.heap.size w'.heap.size v0 (voteCF d y1 y2 y3 y4).1 ∧ kSm.ok (voteCF d y1 y2 y3 y4).1 ∧ Ext w w' := by
  have OKF := hide (voteCF_ok d y1 y2 y3 y4)
  have CPY := hide (fun (wq : World) (xq : Ext w wq) (h3 : Hid (d.2.1.length = 3)) => CP wq v d (kSh.rd_ext h xq) hok h3)
  obtain ⟨A, c, A', c', D, e, rfl, h1, h2, h3⟩ := kSh.lr h
  obtain ⟨F, hF⟩ : ∃ F, Hid (voteCF d y1 y2 y3 y4 = F) := ⟨_, rfl⟩
  rw [hF.out] at OKF ⊢
  obtain ⟨W0, hW0⟩ : ∃ W0, Hid (W0 = (w.alloc (.cells #[.slice A d.1.length c, .slice A' d.2.1.length c', .slice D d.2.2.length e] 28)).alloc (.cells #[.slice none 0 0, .slice none 0 0, .slice none 0 0] 28)) := ⟨_, rfl⟩
  have X0 : Hid (Ext w W0) := by rw [hW0.out]; exact (Ext.alloc w _).trans (Ext.alloc _ _)
  have B0 : Hid (Blk W0 w.heap.size #[.slice A d.1.length c, .slice A' d.2.1.length c', .slice D d.2.2.length e] 28) := by rw [hW0.out]; exact (Blk.new rfl _ _).alloc _
  have R0 : Hid (Blk W0 (w.heap.size + 1) #[.slice none 0 0, .slice none 0 0, .slice none 0 0] 28) := by rw [hW0.out]; exact Blk.new (by simp) _ _
  have IS := hide (s.caHas_m W0 _ d y2 y3 (kSh.rd_ext h X0.out) hok)
  clear CP h hok h1 h2 h3
  obtain ⟨n, hn⟩ : ∃ n, Hid (d.1.length = n) := ⟨_, rfl⟩
  obtain ⟨n', hn'⟩ : ∃ n, Hid (d.2.1.length = n) := ⟨_, rfl⟩
  obtain ⟨m', hm'⟩ : ∃ n, Hid (d.2.2.length = n) := ⟨_, rfl⟩
  rw [hn.out, hn'.out, hm'.out] at hW0 B0 IS CPY ⊢
  go_enter Try.func14, Try.ntmps14
  go_wp2_with fail
  rw [← hW0.out]
  clear hW0
  refine IS.out.mono ?_
  rintro e1 w1 ⟨rfl, x1⟩
  have X1 := hide (X0.out.trans x1)
  have B1 := hide (B0.out.ext x1)
  have R1 := hide (R0.out.ext x1)
  have zR := R0.out.lt
  have z0 := x1.size
  clear x1 IS B0 R0 X0
  have cB := B1.out.cell
  have cR := R1.out.cell; have fR := R1.out.free
  cases hs : sheetB d && hasName d.1 y2 y3
  · have HF : Hid (F = (noSheet, false)) := by
      show _ = _
      rw [← hF.out]
      simp only [Bool.and_eq_false_iff] at hs
      rcases hs with hs | hs <;> simp [voteCF, hs]
    clear hs
    go_wp2
    refine bodyPost_ret (v := .tuple #[.agg #[.slice none 0 0, .slice none 0 0, .slice none 0 0], .bool false]) (by simp [results, Try.results14, go_sem, cR]) rfl ?_
    have hf := HF.out
    subst hf
    exact ⟨_, rfl, kSm_none _ _ _, OKF.out, Ext.set3 X1.out (by omega) _ _ _⟩
  have hs2 := hs
  simp only [Bool.and_eq_true] at hs2
  obtain ⟨hs1, hh⟩ := hs2
  cases hc : inB 0 2 y1
  · have HF : Hid (F = (noSheet, false)) := by show _ = _; rw [← hF.out]; simp [voteCF, hc]
    have HI := hide hc
    clear hs hs1 hh hc
    go_wp2_with (first | (go_at_call 50; refine (s.l1In_any _ _ _ _).mono ?_; rintro e w' ⟨rfl, rfl⟩; first | rw [HI.out]))
    refine bodyPost_ret (v := .tuple #[.agg #[.slice none 0 0, .slice none 0 0, .slice none 0 0], .bool false]) (by simp [results, Try.results14, go_sem, cR]) rfl ?_
    have hf := HF.out
    subst hf
    exact ⟨_, rfl, kSm_none _ _ _, OKF.out, Ext.set3 X1.out (by omega) _ _ _⟩
  cases hm : inB (-1) 3 y4
  · have HF : Hid (F = (noSheet, false)) := by show _ = _; rw [← hF.out]; simp [voteCF, hm]
    have HI := hide hc
    have HJ := hide hm
    clear hs hs1 hh hc hm
    go_wp2_with (first | (go_at_call 50; refine (s.l1In_any _ _ _ _).mono ?_; rintro e w' ⟨rfl, rfl⟩; first | rw [HI.out]) | (go_at_call 51; refine (s.caVote_any _ _).mono ?_; rintro e w' ⟨rfl, rfl⟩; first | rw [HJ.out]))
    refine bodyPost_ret (v := .tuple #[.agg #[.slice none 0 0, .slice none 0 0, .slice none 0 0], .bool false]) (by simp [results, Try.results14, go_sem, cR]) rfl ?_
    have hf := HF.out
    subst hf
    exact ⟨_, rfl, kSm_none _ _ _, OKF.out, Ext.set3 X1.out (by omega) _ _ _⟩
  have HF : Hid (F = ((d.1, setV d.2.1 y1.toNat y2.toNat y3.toNat y4, d.2.2), true)) := by show _ = _; rw [← hF.out]; simp [voteCF, hs1, hc, hh, hm]
  have HI := hide hc
  have HJ := hide hm
  obtain ⟨ix, kx, rfl, rfl, hix, hkx⟩ := hasName_ok hh
  have hb := inB_okV hc
  obtain ⟨cx, rfl⟩ : ∃ cx : Nat, y1 = cx := ⟨y1.toNat, by omega⟩
  have h3 := sheetB_votes hs1
  obtain ⟨vv, hvv⟩ : ∃ vv, d.2.1[cx]? = some vv := ⟨_, List.getElem?_eq_getElem (by omega)⟩
  have hrw := sheetB_rows hs1 (List.mem_of_getElem? hvv)
  obtain ⟨xx, hxx⟩ : ∃ xx, vv[ix]? = some xx := ⟨_, List.getElem?_eq_getElem (by omega)⟩
  have hxl := hrw.2 ix hix
  rw [List.getD_eq_getElem?_getD, hxx, Option.getD_some] at hxl
  have SV : Hid (setV d.2.1 cx ix kx y4 = d.2.1.set cx (vv.set ix (xx.set kx y4))) := by
    show _ = _
    unfold setV
    rw [List.getD_eq_getElem?_getD, hvv, Option.getD_some, List.getD_eq_getElem?_getD, hxx, Option.getD_some]
  rw [Int.toNat_natCast, Int.toNat_natCast, Int.toNat_natCast, SV.out] at HF
  have hkx2 : kx < xx.length := by omega
  have hix2 : ix < vv.length := by omega
  rw [hn'.out] at h3
  subst h3
  have HV := hide hvv
  have HX := hide hxx
  have cx3 : cx < 3 := by omega
  clear hs hs1 hc hh hm hF hvv hxx hrw hxl hb hix hkx SV
  go_wp2_with (first | (go_at_call 50; refine (s.l1In_any _ _ _ _).mono ?_; rintro e w' ⟨rfl, rfl⟩; first | rw [HI.out]) | (go_at_call 51; refine (s.caVote_any _ _).mono ?_; rintro e w' ⟨rfl, rfl⟩; first | rw [HJ.out]))
  refine (CPY.out w1 X1.out (by first | exact hide trivial | exact hide rfl)).mono ?_
  rintro e1 w2 ⟨v2, rfl, hfr, x2⟩
  obtain ⟨A3, c3, A5, c5, A4, c4, f1, f2, f3, rfl, l1, l2, l3, g1, g2, g3⟩ := kSm_parts hfr
  rw [hn.out, hn'.out, hm'.out]
  obtain ⟨g, ga, ca, gx, cx', rfl, q1, q2, q3, q4, q5, q6, q7, q8, q9, q10⟩ := (l2.ext (Ext.alloc w2 (.cells #[.slice A3 n c3, .slice A5 3 c5, .slice A4 m' c4] 28))).spotV cx ix kx vv xx HV.out HX.out hkx2
  have Q10 := hide (q10 y4)
  have G1 := hide g1; have G2 := hide g2; have G3 := hide g3
  have LA := hide (l1.ext (Ext.alloc w2 (.cells #[.slice A3 n c3, .slice (some ⟨g, 0, none⟩) 3 c5, .slice A4 m' c4] 28)))
  have LC := hide (l3.ext (Ext.alloc w2 (.cells #[.slice A3 n c3, .slice (some ⟨g, 0, none⟩) 3 c5, .slice A4 m' c4] 28)))
  have c53 := l2.cap
  rw [hn'.out] at c53
  have c5a := c53.1; have c5b := c53.2
  have X2 := hide ((X1.out.trans x2).trans (Ext.alloc w2 (.cells #[.slice A3 n c3, .slice (some ⟨g, 0, none⟩) 3 c5, .slice A4 m' c4] 28)))
  have R2 := hide ((R1.out.ext x2).alloc (.cells #[.slice A3 n c3, .slice (some ⟨g, 0, none⟩) 3 c5, .slice A4 m' c4] 28))
  have S2 := hide (Blk.new (w := w2) rfl #[.slice A3 n c3, .slice (some ⟨g, 0, none⟩) 3 c5, .slice A4 m' c4] 28)
  have z2 := x2.size
  clear cB cR fR hfr x2 q10 g1 g2 g3 l1 l2 l3 c53 CPY
  have QM := hide q9
  clear q9
  have cS := S2.out.cell
  have cR := R2.out.cell; have fR := R2.out.free
  have gn : gx ≠ w2.heap.size := by have := (G2.out gx QM.out).2.1; omega
  have gr : gx ≠ w.heap.size + 1 := by have := (G2.out gx QM.out).1; omega
  have ic1 : (cx : Int) < 3 := by omega
  have ic2 : (ix : Int) < vv.length := by omega
  have ic3 : (kx : Int) < xx.length := by omega
  have XN := hide (Below.setCell X2.out (show w.heap.size ≤ (⟨gx, kx, none⟩ : Addr).block by show _ ≤ gx; have := (G2.out gx QM.out).1; omega) (.int .i64 y4))
  have SN := hide (S2.out.far (p := ⟨gx, kx, none⟩) (by show w2.heap.size ≠ gx; omega) (.int .i64 y4))
  have RN := hide (R2.out.far (p := ⟨gx, kx, none⟩) (by show w.heap.size + 1 ≠ gx; omega) (.int .i64 y4))
  have LAN := hide (LA.out.keep (w' := (w2.alloc (.cells #[.slice A3 n c3, .slice (some ⟨g, 0, none⟩) 3 c5, .slice A4 m' c4] 28)).setCell ⟨gx, kx, none⟩ (.int .i64 y4)) (fun q hq => Below.heap_setCell _ _ _ _ (fun (e : q = gx) => (G1.out q hq).2.2.1 (e ▸ QM.out))))
  have LCN := hide (LC.out.keep (w' := (w2.alloc (.cells #[.slice A3 n c3, .slice (some ⟨g, 0, none⟩) 3 c5, .slice A4 m' c4] 28)).setCell ⟨gx, kx, none⟩ (.int .i64 y4)) (fun q hq => Below.heap_setCell _ _ _ _ (fun (e : q = gx) => (G2.out gx QM.out).2.2 (e ▸ hq))))
  go_wp2_with fail
  have cE := (RN.out.set3 (.slice A3 n c3) (.slice (some ⟨g, 0, none⟩) 3 c5) (.slice A4 m' c4)).cell
  refine bodyPost_ret (v := .tuple #[.agg #[.slice A3 n c3, .slice (some ⟨g, 0, none⟩) 3 c5, .slice A4 m' c4], .bool true]) (by simp [results, Try.results14, go_sem, cE]) rfl ?_
  have hf := HF.out
  subst hf
  have LT1 := LAN.out.lt; have LT2 := Q10.out.lt; have LT3 := LCN.out.lt
  have k1 : ∀ q, w1.heap.size ≤ q → q ≠ w.heap.size + 1 := fun q hq => by omega
  have ho := kdSh.mkOwn (d := (d.1, d.2.1.set cx (vv.set ix (xx.set kx y4)), d.2.2))
    (LAN.out.keep (fun q hq => heap_set3 (g := w.heap.size + 1) (k1 q (G1.out q hq).1) (.slice A3 n c3) (.slice (some ⟨g, 0, none⟩) 3 c5) (.slice A4 m' c4)))
    (Q10.out.keep (fun q hq => heap_set3 (g := w.heap.size + 1) (k1 q (G2.out q hq).1) (.slice A3 n c3) (.slice (some ⟨g, 0, none⟩) 3 c5) (.slice A4 m' c4)))
    (LCN.out.keep (fun q hq => heap_set3 (g := w.heap.size + 1) (k1 q (G3.out q hq).1) (.slice A3 n c3) (.slice (some ⟨g, 0, none⟩) 3 c5) (.slice A4 m' c4)))
    (fun q hq => (G1.out q hq).2.2.1) (fun q hq => (G1.out q hq).2.2.2) (fun q hq => (G2.out q hq).2.2)
  have hfr := kSm_fr (lo := w.heap.size) ho (fun q hq => by
    rw [List.mem_append, List.mem_append] at hq
    rcases hq with hq | hq | hq
    · have := (G1.out q hq).1; omega
    · have := (G2.out q hq).1; omega
    · have := (G3.out q hq).1; omega)
  have en : d.1.length = n := hn.out
  have en2 : (d.2.1.set cx (vv.set ix (xx.set kx y4))).length = 3 := by rw [List.length_set]; exact hn'.out
  have en3 : d.2.2.length = m' := hm'.out
  refine ⟨_, rfl, ?_, OKF.out, Ext.set3 XN.out (by omega) _ _ _⟩
  show kSm.fr _ _ _ _ (d.1, d.2.1.set cx (vv.set ix (xx.set kx y4)), d.2.2)
  rw [← en, ← en3]
  rw [show (Value.slice (some ⟨g, 0, none⟩) 3 c5) = .slice (some ⟨g, 0, none⟩) (d.2.1.set cx (vv.set ix (xx.set kx y4))).length c5 from by rw [en2]]
  rw [← en, ← en3, show (Value.slice (some ⟨g, 0, none⟩) 3 c5) = .slice (some ⟨g, 0, none⟩) (d.2.1.set cx (vv.set ix (xx.set kx y4))).length c5 from by rw [en2]] at hfr
  exact hfr
end Go.Proofs.Ytofmfagdaiphaaa
