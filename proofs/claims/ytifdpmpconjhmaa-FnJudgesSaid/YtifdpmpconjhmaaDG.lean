/- The draws of the laws over marks. -/
import Derived.Test.YtifdpmpconjhmaaDF
namespace Go.Proofs.Ytifdpmpconjhmaa
open Go.RowKit Go.Sort
set_option linter.unusedVariables false

/-- Bytes that came in. -/
structure ArgB (w : World) (A : Option Addr) (n c : Nat) : Prop where
  cap : n ≤ c
  capm : c ≤ 9223372036854775807
  cells : 0 < n → ∃ b off, A = some ⟨b, off, none⟩ ∧ b < w.heap.size ∧ ∀ k, k < n → ∃ x, w.cell? ⟨b, off + k, none⟩ = some (.int .u8 x) ∧ 0 ≤ x ∧ x ≤ 255
theorem ArgB.ext {w w' : World} {A : Option Addr} {n c : Nat} (h : ArgB w A n c) (k : Ext w w') : ArgB w' A n c := by
  refine ⟨h.cap, h.capm, fun hn => ?_⟩
  obtain ⟨b, off, e, hb, hc⟩ := h.cells hn
  refine ⟨b, off, e, by have := k.size; omega, fun j hj => ?_⟩
  obtain ⟨x, hx, h1⟩ := hc j hj
  exact ⟨x, (k.cell hb).trans hx, h1⟩
theorem Cur.new {w : World} {A : Option Addr} {n c : Nat} (h : ArgB w A n c) : Cur (w.alloc (.cells #[.slice A n c, .int .i64 0, .int .u64 0] 47)) w.heap.size 0 := by
  refine ⟨A, n, c, 0, 0, Blk.new rfl _ _, Nat.le_refl _, Nat.le_trans h.cap h.capm, by omega, by omega, fun h0 => ?_⟩
  obtain ⟨b, off, e, hb, hc⟩ := h.cells h0
  refine ⟨b, off, e, hb, fun j hj => ?_⟩
  obtain ⟨x, hx, h1⟩ := hc j hj
  exact ⟨x, (cellA (by simpa using hb)).trans hx, h1⟩
theorem TchF.ext_of {g : Nat} {w a b : World} (h : Ext w a) (k : TchF [g] a b) (hg : w.heap.size ≤ g) : Ext w b := h.tchF k (by simpa using hg)
theorem kM.end2 {w wz : World} {lo : Nat} {v u0 u1 : Value} {d : MD} (h : RdA kM lo wz v d) (hl : w.heap.size < lo) (hx : Ext w wz) :
    kM.rd ((wz.setCell ⟨w.heap.size, 0, none⟩ u0).setCell ⟨w.heap.size, 1, none⟩ u1) v d ∧ Ext w ((wz.setCell ⟨w.heap.size, 0, none⟩ u0).setCell ⟨w.heap.size, 1, none⟩ u1) :=
  ⟨((h.far (by simpa using hl) u0).far (by simpa using hl) u1).rd, Below.setCell (Below.setCell hx (by simp) _) (by simp) _⟩
theorem kM.end2D {w wz : World} {lo : Nat} {v u0 u1 : Value} {d : MD} (h : RdA kM lo wz v d) (hl : w.heap.size < lo) (hx : Ext w wz) :
    kM.rd ((wz.setCell ⟨w.heap.size, 0, none⟩ u0).setCell ⟨w.heap.size, 1, none⟩ u1).drew v d ∧ Ext w ((wz.setCell ⟨w.heap.size, 0, none⟩ u0).setCell ⟨w.heap.size, 1, none⟩ u1).drew :=
  ⟨kM.rd_ext (kM.end2 h hl hx).1 (Ext.drew _), (kM.end2 h hl hx).2.trans (Ext.drew _)⟩

set_option maxRecDepth 100000 in
set_option maxHeartbeats 4000000 in
theorem s.DrawSwapJudges_m (w : World) (A : Option Addr) (n c : Nat) (h : ArgB w A n c) :
    Calls Try.prog 4 #[.slice A n c] w fun e w' => ∃ v d y0 y1, e = .returned (.tuple #[v, .int .i64 y0, .int .i64 y1]) ∧ kM.rd w' v d ∧ kM.ok d ∧ InR y0 ∧ InR y1 ∧ Ext w w' := by
  obtain ⟨W0, hW0⟩ : ∃ W0, Hid (W0 = (w.alloc (.cells #[.slice none 0 0, .slice none 0 0] 25)).alloc (.cells #[.slice A n c, .int .i64 0, .int .u64 0] 47)) := ⟨_, rfl⟩
  obtain ⟨g, hg⟩ : ∃ g, Hid (g = w.heap.size + 1) := ⟨_, rfl⟩
  have gl : w.heap.size < g := by rw [hg.out]; omega
  have CU : Hid (Cur W0 g 0) := by
    rw [hW0.out, hg.out]
    have := Cur.new (h.ext (Ext.alloc w (.cells #[.slice none 0 0, .slice none 0 0] 25)))
    show Cur _ _ _
    simpa using this
  have X : Hid (Ext w W0) := by rw [hW0.out]; exact (Ext.alloc w _).trans (Ext.alloc _ _)
  have BX : Hid (Blk W0 w.heap.size #[.slice none 0 0, .slice none 0 0] 25) := by rw [hW0.out]; exact (Blk.new rfl _ _).alloc _
  clear h
  go_enter Try.func4, Try.ntmps4
  go_wp2_with fail
  rw [← hW0.out, ← hg.out]
  clear hW0 hg
  refine (cu.howMany_m W0 g _ CU.out (by omega)).mono ?_
  rintro e w1 ⟨m1, rfl, b1, c1, k1⟩
  replace X := hide (TchF.ext_of X.out k1 (by omega))
  replace BX := hide (BX.out.tchF k1 (by simp; omega))
  replace CU := hide c1
  clear c1 k1
  go_wp2_with fail
  refine (cu.anyMarks_m w1 g _ m1 CU.out (by omega) (by omega)).mono ?_
  rintro e w2 ⟨v, d, rfl, hr, hok, c2, k2⟩
  replace X := hide (TchF.ext_of X.out k2 (by omega))
  replace BX := hide (BX.out.tchF k2 (by simp; omega))
  have hlo : w.heap.size < w1.heap.size ∧ g < w1.heap.size := by have := CU.out.lt; omega
  obtain ⟨A1, n1, e1, A2, n2, e2, rfl⟩ := kM.shape hr.rd
  have RD := hide hr
  have OK := hide hok
  clear hr hok
  replace CU := hide c2
  clear c2 k2
  go_wp2_with fail
  refine (cu.pick_m w2 g _ 5 CU.out (by omega) (by unfold InR; omega)).mono ?_
  rintro e w3 ⟨y3, rfl, a3, b3', -, c3, k3⟩
  have b3 := b3' (by omega)
  clear b3'
  replace X := hide (TchF.ext_of X.out k3 (by omega))
  replace BX := hide (BX.out.tchF k3 (by simp; omega))
  replace RD := hide (RD.out.tchF k3 (fun i hi => by simp at hi; omega))
  replace CU := hide c3
  clear c3 k3
  go_wp2_with fail
  refine (cu.pick_m w3 g _ 6 CU.out (by omega) (by unfold InR; omega)).mono ?_
  rintro e w4 ⟨y4, rfl, a4, b4', -, c4, k4⟩
  have b4 := b4' (by omega)
  clear b4'
  replace X := hide (TchF.ext_of X.out k4 (by omega))
  replace BX := hide (BX.out.tchF k4 (by simp; omega))
  replace RD := hide (RD.out.tchF k4 (fun i hi => by simp at hi; omega))
  replace CU := hide c4
  clear c4 k4
  go_wp2_with fail
  refine (cu.pick_m w4 g _ 20 CU.out (by omega) (by unfold InR; omega)).mono ?_
  rintro e w5 ⟨y5, rfl, a5, b5', -, c5, k5⟩
  have b5 := b5' (by omega)
  clear b5'
  replace X := hide (TchF.ext_of X.out k5 (by omega))
  replace BX := hide (BX.out.tchF k5 (by simp; omega))
  replace RD := hide (RD.out.tchF k5 (fun i hi => by simp at hi; omega))
  replace CU := hide c5
  clear c5 k5
  have q0 := BX.out.cell
  have f0 := BX.out.free
  go_wp2
  refine bodyPost_ret (v := .tuple #[.agg #[.slice A1 n1 e1, .slice A2 n2 e2], .int .i64 (y3), .int .i64 (y4 - y5 / 19)]) (by simp [results, Try.results4, go_sem, q0]) rfl ?_
  exact ⟨_, d, y3, y4 - y5 / 19, rfl, (kM.end2 RD.out hlo.1 X.out).1, OK.out, by unfold InR; omega, by unfold InR; omega, (kM.end2 RD.out hlo.1 X.out).2⟩
set_option maxRecDepth 100000 in
set_option maxHeartbeats 4000000 in
theorem s.DrawSetGrade_m (w : World) (A : Option Addr) (n c : Nat) (h : ArgB w A n c) :
    Calls Try.prog 7 #[.slice A n c] w fun e w' => ∃ v d y0 y1 y2, e = .returned (.tuple #[v, .int .i64 y0, .int .i64 y1, .int .i64 y2]) ∧ kM.rd w' v d ∧ kM.ok d ∧ InR y0 ∧ InR y1 ∧ InR y2 ∧ Ext w w' := by
  obtain ⟨W0, hW0⟩ : ∃ W0, Hid (W0 = (w.alloc (.cells #[.slice none 0 0, .slice none 0 0] 25)).alloc (.cells #[.slice A n c, .int .i64 0, .int .u64 0] 47)) := ⟨_, rfl⟩
  obtain ⟨g, hg⟩ : ∃ g, Hid (g = w.heap.size + 1) := ⟨_, rfl⟩
  have gl : w.heap.size < g := by rw [hg.out]; omega
  have CU : Hid (Cur W0 g 0) := by
    rw [hW0.out, hg.out]
    have := Cur.new (h.ext (Ext.alloc w (.cells #[.slice none 0 0, .slice none 0 0] 25)))
    show Cur _ _ _
    simpa using this
  have X : Hid (Ext w W0) := by rw [hW0.out]; exact (Ext.alloc w _).trans (Ext.alloc _ _)
  have BX : Hid (Blk W0 w.heap.size #[.slice none 0 0, .slice none 0 0] 25) := by rw [hW0.out]; exact (Blk.new rfl _ _).alloc _
  clear h
  go_enter Try.func7, Try.ntmps7
  go_wp2_with fail
  rw [← hW0.out, ← hg.out]
  clear hW0 hg
  refine (cu.howMany_m W0 g _ CU.out (by omega)).mono ?_
  rintro e w1 ⟨m1, rfl, b1, c1, k1⟩
  replace X := hide (TchF.ext_of X.out k1 (by omega))
  replace BX := hide (BX.out.tchF k1 (by simp; omega))
  replace CU := hide c1
  clear c1 k1
  go_wp2_with fail
  refine (cu.anyMarks_m w1 g _ m1 CU.out (by omega) (by omega)).mono ?_
  rintro e w2 ⟨v, d, rfl, hr, hok, c2, k2⟩
  replace X := hide (TchF.ext_of X.out k2 (by omega))
  replace BX := hide (BX.out.tchF k2 (by simp; omega))
  have hlo : w.heap.size < w1.heap.size ∧ g < w1.heap.size := by have := CU.out.lt; omega
  obtain ⟨A1, n1, e1, A2, n2, e2, rfl⟩ := kM.shape hr.rd
  have RD := hide hr
  have OK := hide hok
  clear hr hok
  replace CU := hide c2
  clear c2 k2
  go_wp2_with fail
  refine (cu.pick_m w2 g _ (m1 + 1) CU.out (by omega) (by unfold InR; omega)).mono ?_
  rintro e w3 ⟨y3, rfl, a3, b3', -, c3, k3⟩
  have b3 := b3' (by omega)
  clear b3'
  replace X := hide (TchF.ext_of X.out k3 (by omega))
  replace BX := hide (BX.out.tchF k3 (by simp; omega))
  replace RD := hide (RD.out.tchF k3 (fun i hi => by simp at hi; omega))
  replace CU := hide c3
  clear c3 k3
  go_wp2_with fail
  refine (cu.pick_m w3 g _ 20 CU.out (by omega) (by unfold InR; omega)).mono ?_
  rintro e w4 ⟨y4, rfl, a4, b4', -, c4, k4⟩
  have b4 := b4' (by omega)
  clear b4'
  replace X := hide (TchF.ext_of X.out k4 (by omega))
  replace BX := hide (BX.out.tchF k4 (by simp; omega))
  replace RD := hide (RD.out.tchF k4 (fun i hi => by simp at hi; omega))
  replace CU := hide c4
  clear c4 k4
  go_wp2_with fail
  refine (cu.pick_m w4 g _ 6 CU.out (by omega) (by unfold InR; omega)).mono ?_
  rintro e w5 ⟨y5, rfl, a5, b5', -, c5, k5⟩
  have b5 := b5' (by omega)
  clear b5'
  replace X := hide (TchF.ext_of X.out k5 (by omega))
  replace BX := hide (BX.out.tchF k5 (by simp; omega))
  replace RD := hide (RD.out.tchF k5 (fun i hi => by simp at hi; omega))
  replace CU := hide c5
  clear c5 k5
  go_wp2_with fail
  refine (cu.pick_m w5 g _ 13 CU.out (by omega) (by unfold InR; omega)).mono ?_
  rintro e w6 ⟨y6, rfl, a6, b6', -, c6, k6⟩
  have b6 := b6' (by omega)
  clear b6'
  replace X := hide (TchF.ext_of X.out k6 (by omega))
  replace BX := hide (BX.out.tchF k6 (by simp; omega))
  replace RD := hide (RD.out.tchF k6 (fun i hi => by simp at hi; omega))
  replace CU := hide c6
  clear c6 k6
  have q0 := BX.out.cell
  have f0 := BX.out.free
  go_wp2
  refine bodyPost_ret (v := .tuple #[.agg #[.slice A1 n1 e1, .slice A2 n2 e2], .int .i64 (y3 - y4 / 19), .int .i64 (y5), .int .i64 (y6 - 6)]) (by simp [results, Try.results7, go_sem, q0]) rfl ?_
  exact ⟨_, d, y3 - y4 / 19, y5, y6 - 6, rfl, (kM.end2 RD.out hlo.1 X.out).1, OK.out, by unfold InR; omega, by unfold InR; omega, by unfold InR; omega, (kM.end2 RD.out hlo.1 X.out).2⟩
set_option maxRecDepth 100000 in
set_option maxHeartbeats 4000000 in
theorem s.DrawSetComponent_m (w : World) (A : Option Addr) (n c : Nat) (h : ArgB w A n c) :
    Calls Try.prog 10 #[.slice A n c] w fun e w' => ∃ v d y0 y1 y2, e = .returned (.tuple #[v, .int .i64 y0, .int .i64 y1, .int .i64 y2]) ∧ kM.rd w' v d ∧ kM.ok d ∧ InR y0 ∧ InR y1 ∧ InR y2 ∧ Ext w w' := by
  obtain ⟨W0, hW0⟩ : ∃ W0, Hid (W0 = (w.alloc (.cells #[.slice none 0 0, .slice none 0 0] 25)).alloc (.cells #[.slice A n c, .int .i64 0, .int .u64 0] 47)) := ⟨_, rfl⟩
  obtain ⟨g, hg⟩ : ∃ g, Hid (g = w.heap.size + 1) := ⟨_, rfl⟩
  have gl : w.heap.size < g := by rw [hg.out]; omega
  have CU : Hid (Cur W0 g 0) := by
    rw [hW0.out, hg.out]
    have := Cur.new (h.ext (Ext.alloc w (.cells #[.slice none 0 0, .slice none 0 0] 25)))
    show Cur _ _ _
    simpa using this
  have X : Hid (Ext w W0) := by rw [hW0.out]; exact (Ext.alloc w _).trans (Ext.alloc _ _)
  have BX : Hid (Blk W0 w.heap.size #[.slice none 0 0, .slice none 0 0] 25) := by rw [hW0.out]; exact (Blk.new rfl _ _).alloc _
  clear h
  go_enter Try.func10, Try.ntmps10
  go_wp2_with fail
  rw [← hW0.out, ← hg.out]
  clear hW0 hg
  refine (cu.pick_m W0 g _ 4 CU.out (by omega) (by unfold InR; omega)).mono ?_
  rintro e w1 ⟨m1', rfl, a1, b1', -, c1, k1⟩
  have b1 := b1' (by omega)
  clear b1'
  obtain ⟨m1, rfl⟩ : ∃ m : Nat, m1' = m := ⟨m1'.toNat, by omega⟩
  replace X := hide (TchF.ext_of X.out k1 (by omega))
  replace BX := hide (BX.out.tchF k1 (by simp; omega))
  replace CU := hide c1
  clear c1 k1
  go_wp2_with fail
  refine (cu.anyMarks_m w1 g _ m1 CU.out (by omega) (by omega)).mono ?_
  rintro e w2 ⟨v, d, rfl, hr, hok, c2, k2⟩
  replace X := hide (TchF.ext_of X.out k2 (by omega))
  replace BX := hide (BX.out.tchF k2 (by simp; omega))
  have hlo : w.heap.size < w1.heap.size ∧ g < w1.heap.size := by have := CU.out.lt; omega
  obtain ⟨A1, n1, e1, A2, n2, e2, rfl⟩ := kM.shape hr.rd
  have RD := hide hr
  have OK := hide hok
  clear hr hok
  replace CU := hide c2
  clear c2 k2
  go_wp2_with fail
  refine (cu.pick_m w2 g _ 4 CU.out (by omega) (by unfold InR; omega)).mono ?_
  rintro e w3 ⟨y3, rfl, a3, b3', -, c3, k3⟩
  have b3 := b3' (by omega)
  clear b3'
  replace X := hide (TchF.ext_of X.out k3 (by omega))
  replace BX := hide (BX.out.tchF k3 (by simp; omega))
  replace RD := hide (RD.out.tchF k3 (fun i hi => by simp at hi; omega))
  replace CU := hide c3
  clear c3 k3
  go_wp2_with fail
  refine (cu.pick_m w3 g _ 20 CU.out (by omega) (by unfold InR; omega)).mono ?_
  rintro e w4 ⟨y4, rfl, a4, b4', -, c4, k4⟩
  have b4 := b4' (by omega)
  clear b4'
  replace X := hide (TchF.ext_of X.out k4 (by omega))
  replace BX := hide (BX.out.tchF k4 (by simp; omega))
  replace RD := hide (RD.out.tchF k4 (fun i hi => by simp at hi; omega))
  replace CU := hide c4
  clear c4 k4
  go_wp2_with fail
  refine (cu.pick_m w4 g _ 6 CU.out (by omega) (by unfold InR; omega)).mono ?_
  rintro e w5 ⟨y5, rfl, a5, b5', -, c5, k5⟩
  have b5 := b5' (by omega)
  clear b5'
  replace X := hide (TchF.ext_of X.out k5 (by omega))
  replace BX := hide (BX.out.tchF k5 (by simp; omega))
  replace RD := hide (RD.out.tchF k5 (fun i hi => by simp at hi; omega))
  replace CU := hide c5
  clear c5 k5
  have AMG := hide (cu.among_m (w5.alloc (.cells #[.int .i64 (-25), .int .i64 0, .int .i64 25, .int .i64 475, .int .i64 476, .int .i64 1000, .int .i64 1025] 3)) g _ w5.heap.size 7 [-25, 0, 25, 475, 476, 1000, 1025] (CU.out.ext (Ext.alloc _ _)) (by omega) (Blk.new rfl _ _) (by have := CU.out.lt; omega) (by decide) (by decide))
  go_wp2_with fail
  refine AMG.out.mono ?_
  rintro e w6 ⟨y6, rfl, hm6, c6, k60⟩
  have k6 : TchF [g] w5 w6 := (TchF.of_ext (Ext.alloc _ _)).trans k60
  have b6 : -25 ≤ y6 ∧ y6 ≤ 1025 := by
    simp only [List.mem_cons, List.not_mem_nil, or_false] at hm6
    omega
  clear AMG hm6 k60
  replace X := hide (TchF.ext_of X.out k6 (by omega))
  replace BX := hide (BX.out.tchF k6 (by simp; omega))
  replace RD := hide (RD.out.tchF k6 (fun i hi => by simp at hi; omega))
  replace CU := hide c6
  clear c6 k6
  have q0 := BX.out.cell
  have f0 := BX.out.free
  go_wp2
  refine bodyPost_ret (v := .tuple #[.agg #[.slice A1 n1 e1, .slice A2 n2 e2], .int .i64 (y3 - y4 / 19), .int .i64 (y5), .int .i64 (y6)]) (by simp [results, Try.results10, go_sem, q0]) rfl ?_
  exact ⟨_, d, y3 - y4 / 19, y5, y6, rfl, (kM.end2 RD.out hlo.1 X.out).1, OK.out, by unfold InR; omega, by unfold InR; omega, by unfold InR; omega, (kM.end2 RD.out hlo.1 X.out).2⟩
theorem inr_wrap (x : Int) : InR (IntKind.i64.wrap x) := by
  have h : (Lit.int .i64 (IntKind.i64.wrap x)).wf = true := wf_wrap _ _
  simp [Lit.wf, IntKind.min, IntKind.max, IntKind.signed, IntKind.bits] at h
  unfold InR
  omega
set_option maxRecDepth 100000 in
set_option maxHeartbeats 4000000 in
theorem s.DrawJudgeMarks_m (w : World) (A : Option Addr) (n c : Nat) (h : ArgB w A n c) :
    Calls Try.prog 16 #[.slice A n c] w fun e w' => ∃ v d y0, e = .returned (.tuple #[v, .int .i64 y0]) ∧ RdA kM w.heap.size w' v d ∧ kM.ok d ∧ InR y0 ∧ Ext w w' := by
  obtain ⟨W0, hW0⟩ : ∃ W0, Hid (W0 = (w.alloc (.cells #[.slice none 0 0, .slice none 0 0] 25)).alloc (.cells #[.slice A n c, .int .i64 0, .int .u64 0] 47)) := ⟨_, rfl⟩
  obtain ⟨g, hg⟩ : ∃ g, Hid (g = w.heap.size + 1) := ⟨_, rfl⟩
  have gl : w.heap.size < g := by rw [hg.out]; omega
  have CU : Hid (Cur W0 g 0) := by
    rw [hW0.out, hg.out]
    have := Cur.new (h.ext (Ext.alloc w (.cells #[.slice none 0 0, .slice none 0 0] 25)))
    show Cur _ _ _
    simpa using this
  have X : Hid (Ext w W0) := by rw [hW0.out]; exact (Ext.alloc w _).trans (Ext.alloc _ _)
  have BX : Hid (Blk W0 w.heap.size #[.slice none 0 0, .slice none 0 0] 25) := by rw [hW0.out]; exact (Blk.new rfl _ _).alloc _
  clear h
  go_enter Try.func16, Try.ntmps16
  go_wp2_with fail
  rw [← hW0.out, ← hg.out]
  clear hW0 hg
  refine (cu.howMany_m W0 g _ CU.out (by omega)).mono ?_
  rintro e w1 ⟨m1, rfl, b1, c1, k1⟩
  replace X := hide (TchF.ext_of X.out k1 (by omega))
  replace BX := hide (BX.out.tchF k1 (by simp; omega))
  replace CU := hide c1
  clear c1 k1
  go_wp2_with fail
  refine (cu.anyMarks_m w1 g _ m1 CU.out (by omega) (by omega)).mono ?_
  rintro e w2 ⟨v, d, rfl, hr, hok, c2, k2⟩
  replace X := hide (TchF.ext_of X.out k2 (by omega))
  replace BX := hide (BX.out.tchF k2 (by simp; omega))
  have hlo : w.heap.size < w1.heap.size ∧ g < w1.heap.size := by have := CU.out.lt; omega
  obtain ⟨A1, n1, e1, A2, n2, e2, rfl⟩ := kM.shape hr.rd
  have OK := hide hok
  replace CU := hide c2
  obtain ⟨Wa, hWa⟩ : ∃ Wa, Hid (Wa = w2.alloc (.cells #[.slice A1 n1 e1, .slice A2 n2 e2] 25)) := ⟨_, rfl⟩
  have xa : Ext w2 Wa := by rw [hWa.out]; exact Ext.alloc _ _
  have BV : Hid (Blk Wa w2.heap.size #[.slice A1 n1 e1, .slice A2 n2 e2] 25) := by rw [hWa.out]; exact Blk.new rfl _ _
  have gw : g < w2.heap.size := CU.out.lt
  have RD := hide (hr.ext xa)
  replace CU := hide (CU.out.ext xa)
  replace X := hide (X.out.trans xa)
  replace BX := hide (BX.out.ext xa)
  have wx : w.heap.size < w2.heap.size := by have := k2.size; omega
  obtain ⟨gB, hgB⟩ : ∃ gB, gB = w2.heap.size := ⟨_, rfl⟩
  have P10 := hide (cu.pick_m Wa.drew g _ 10 (CU.out.ext (Ext.drew _)) (by omega) (by unfold InR; omega))
  have P20 : Hid (∀ wq, Cur wq g (0 + 4 + 20 * m1 + 200 + 2) → _) := fun wq hq => cu.pick_m wq g _ 20 hq (by omega) (by unfold InR; omega)
  have XD : Hid (TchF [g] Wa Wa.drew) := TchF.of_ext (Ext.drew _)
  have SF : Hid (∀ wz, TchF [g] Wa wz → ∀ i, wz.cell? ⟨gB, i, none⟩ = #[Value.slice A1 n1 e1, .slice A2 n2 e2][i]?) := fun wz hz => by rw [hgB]; exact (BV.out.tchF hz (by simp; omega)).cell
  have SS : Hid (∀ wz v u, TchF [g] Wa wz → ∀ i, ((wz.setCell ⟨w.heap.size, 0, none⟩ v).setCell ⟨w.heap.size, 1, none⟩ u).cell? ⟨gB, i, none⟩ = #[Value.slice A1 n1 e1, .slice A2 n2 e2][i]?) := fun wz v u hz => by rw [hgB]; exact (((BV.out.tchF hz (by simp; omega)).far (by simp; omega) v).far (by simp; omega) u).cell
  have QF : Hid (∀ wz, TchF [g] Wa wz → (∀ i, wz.cell? ⟨w.heap.size, i, none⟩ = #[Value.slice none 0 0, .slice none 0 0][i]?) ∧ ∀ i, wz.frozen? ⟨w.heap.size, i, none⟩ = false) := fun wz hz => ⟨(BX.out.tchF hz (by simp; omega)).cell, (BX.out.tchF hz (by simp; omega)).free⟩
  clear hr hok c2 k2 xa
  go_wp2
  rw [← hWa.out, ← hgB]
  clear hWa hgB
  go_region_held3 (fun wz => ∀ i, wz.cell? ⟨gB, i, none⟩ = #[Value.slice A1 n1 e1, .slice A2 n2 e2][i]?)
    (first | with_reducible exact SS.out _ _ _ K4.out | with_reducible exact SF.out _ K4.out | with_reducible exact SF.out _ K3.out | with_reducible exact SF.out _ XD.out | fail)
    (first
      | (go_at_call 24; refine (P20.out w3 C3.out).mono ?_; rintro e w4 ⟨y4, rfl, a4, b4', -, c4, k4⟩; have b4 := b4' (by omega); have K4 := hide (K3.out.trans k4); have q0 := (QF.out w4 K4.out).1; have f0 := (QF.out w4 K4.out).2; clear c4 k4 b4')
      | (go_at_call 24; refine P10.out.mono ?_; rintro e w3 ⟨y3, rfl, a3, b3', -, c3, k3⟩; have b3 := b3' (by omega); have K3 := hide (XD.out.trans k3); have C3 := hide c3; clear c3 k3 b3')
      | fail)
  all_goals
    go_wp2
    refine bodyPost_ret (v := .tuple #[.agg #[.slice A1 n1 e1, .slice A2 n2 e2], .int .i64 (IntKind.i64.wrap (y3 - IntKind.i64.wrap (y4.tdiv 19)))]) (by simp [results, Try.results16, go_sem, q0]) rfl ?_
    have rd := RD.out.tchF K4.out (fun i hi => by simp at hi; omega)
    exact ⟨_, d, _, rfl, ((rd.far (by simpa using hlo.1) _).far (by simpa using hlo.1) _).mono (by omega), OK.out, inr_wrap _, Below.setCell (Below.setCell (TchF.ext_of X.out K4.out (by omega)) (by simp) _) (by simp) _⟩
set_option maxRecDepth 100000 in
set_option maxHeartbeats 4000000 in
theorem s.DrawDropJudge_m (w : World) (A : Option Addr) (n c : Nat) (h : ArgB w A n c) :
    Calls Try.prog 13 #[.slice A n c] w fun e w' => ∃ v d y0, e = .returned (.tuple #[v, .int .i64 y0]) ∧ RdA kM w.heap.size w' v d ∧ kM.ok d ∧ InR y0 ∧ Ext w w' := by
  have D := hide (s.DrawJudgeMarks_m _ A n c (h.ext (Ext.alloc w (.cells #[.slice none 0 0, .slice none 0 0] 25))))
  have B0 : Hid (Blk (w.alloc (.cells #[.slice none 0 0, .slice none 0 0] 25)) w.heap.size #[.slice none 0 0, .slice none 0 0] 25) := Blk.new rfl _ _
  clear h
  go_enter Try.func13, Try.ntmps13
  go_wp2_with fail
  refine D.out.mono ?_
  rintro e w1 ⟨v, d, y0, rfl, hr, hok, hy, x1⟩
  obtain ⟨A1, n1, e1, A2, n2, e2, rfl⟩ := kM.shape hr.rd
  have RD := hide hr
  have OK := hide hok
  have q0 := (B0.out.ext x1).cell
  have f0 := (B0.out.ext x1).free
  have X := hide ((Ext.alloc w _).trans x1)
  have Y := hide hy
  have hlo : w.heap.size < (w.alloc (.cells #[.slice none 0 0, .slice none 0 0] 25)).heap.size := by simp
  have HL := hide hlo
  clear hr hok x1 hy hlo
  go_wp2
  refine bodyPost_ret (v := .tuple #[.agg #[.slice A1 n1 e1, .slice A2 n2 e2], .int .i64 y0]) (by simp [results, Try.results13, go_sem, q0]) rfl ?_
  exact ⟨_, d, y0, rfl, ((RD.out.far HL.out _).far HL.out _).mono (by have := HL.out; omega), OK.out, Y.out, Below.setCell (Below.setCell X.out (by simp) _) (by simp) _⟩
end Go.Proofs.Ytifdpmpconjhmaa
