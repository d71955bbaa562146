/- ItemScores. -/
import Derived.Test.YtaoeomgehpdedaaGreatRP
import Derived.Test.YtaoeomgehpdedaaGreatRL
namespace Go.Proofs.YtaoeomgehpdedaaGreat
open Go.RowKit Go.Sort
set_option linter.unusedVariables false

def itemScoresF (d : CoD) (xs : List ItD) (m : MD) : List Int × Bool := if judgedB d xs m then (scoresN d xs m xs.length, true) else ([], false)

set_option maxRecDepth 100000 in
set_option maxHeartbeats 2000000 in
theorem i.ItemScores_law (w : World) (v v1 v2 : Value) (d : CoD) (xs : List ItD) (m : MD) (h : kC.rd w v d) (hok : kC.ok d) (hx : kIt.rd w v1 xs) (hox : kIt.ok xs) (hm : kM.rd w v2 m) (hom : kM.ok m) :
    Calls Tryz.prog 6 #[v, v1, v2] w fun e w' => ∃ v0, e = .returned (.tuple #[v0, .bool (itemScoresF d xs m).2]) ∧ kI.fr w' w.heap.size w'.heap.size v0 (itemScoresF d xs m).1 ∧ kI.ok (itemScoresF d xs m).1 ∧ Ext w w' := by
  obtain ⟨Ac, nc, cc, Al, nl, cl, r, b, p, f, rfl⟩ := kC.shape h
  obtain ⟨A, c, rfl, hl⟩ := kIt.lr hx
  obtain ⟨Am, nm, cm, Am', nm', cm', rfl⟩ := kM.shape hm
  have HR := hide h
  have HX := hide hx
  have HM := hide hm
  have a1 := hl.1; have a2 := hl.2.1
  have n1 := kIt.ok_len hox
  obtain ⟨W0, hW0⟩ : ∃ W0, Hid (W0 = (w.alloc (.cells #[.slice Ac nc cc, .slice Al nl cl, .int .i64 r, .int .i64 b, .int .i64 p, .int .i64 f] 26)).alloc (.cells #[.slice Am nm cm, .slice Am' nm' cm'] 30)) := ⟨_, rfl⟩
  have X0 : Hid (Ext w W0) := by rw [hW0.out]; exact (Ext.alloc w _).trans (Ext.alloc _ _)
  have B0 : Hid (Blk W0 w.heap.size #[.slice Ac nc cc, .slice Al nl cl, .int .i64 r, .int .i64 b, .int .i64 p, .int .i64 f] 26) := by rw [hW0.out]; exact (Blk.new rfl _ _).alloc _
  have B1 : Hid (Blk W0 (w.heap.size + 1) #[.slice Am nm cm, .slice Am' nm' cm'] 30) := by rw [hW0.out]; exact Blk.new (by simp) _ _
  have HJ := hide (fun (wq : World) (xq : Ext w wq) => i.areJudged_m wq _ _ _ d xs m (kC.rd_ext HR.out xq) hok (kIt.rd_ext HX.out xq) hox (kM.rd_ext HM.out xq) hom)
  obtain ⟨F, hF⟩ : ∃ F, Hid (itemScoresF d xs m = F) := ⟨_, rfl⟩
  rw [hF.out]
  clear h hx hm hl
  obtain ⟨n, hn⟩ : ∃ n, Hid (xs.length = n) := ⟨_, rfl⟩
  rw [hn.out] at HJ n1 a1 ⊢
  go_enter Tryz.func6, Tryz.ntmps6
  go_wp2_with fail
  rw [← hW0.out]
  clear hW0
  refine (HJ.out _ X0.out).mono ?_
  rintro e w1 ⟨rfl, x1⟩
  replace X0 := hide (X0.out.trans x1)
  replace B0 := hide (B0.out.ext x1)
  replace B1 := hide (B1.out.ext x1)
  clear x1
  have c0_ := B0.out.cell; have c1_ := B1.out.cell
  cases hh : judgedB d xs m
  · have HF : Hid (F = ([], false)) := by show _ = _; rw [← hF.out]; simp [itemScoresF, hh]
    clear hh
    go_wp2
    go_ret2
    rw [HF.out]
    exact ⟨_, rfl, kI_nil _ _ _ (Nat.le_refl _), Nat.zero_le _, X0.out⟩
  have hj := jOk hh
  have h14 := hj.ls.n
  rw [hn.out] at h14
  have HF : Hid (F = (scoresN d xs m n, true)) := by show _ = _; rw [← hF.out, ← hn.out]; simp [itemScoresF, hh]
  have CS := hide (i.itemScores_m w1 _ _ _ d xs m (kC.rd_ext HR.out X0.out) hok (kIt.rd_ext HX.out X0.out) (kM.rd_ext HM.out X0.out) hj)
  rw [hn.out] at CS
  clear hh hj
  go_wp2_with fail
  clear c0_ c1_
  refine CS.out.mono ?_
  rintro e w2 ⟨A9, c9, rfl, o9, x1⟩
  have O9 := hide o9
  have z0 := X0.out.size
  replace X0 := hide (X0.out.trans x1)
  have oc1 := o9.capn; have oc2 := o9.capm
  clear x1 o9
  go_wp2
  go_ret2
  rw [HF.out]
  exact ⟨_, rfl, kI_of (OwnI.lower O9.out z0), by show (scoresN d xs m n).length ≤ _; rw [scoresN_len]; omega, X0.out⟩

set_option maxRecDepth 100000 in
set_option maxHeartbeats 2000000 in
theorem s.ItemScores_law (w : World) (v v1 v2 : Value) (d : CoD) (xs : List ItD) (m : MD) (h : kC.rd w v d) (hok : kC.ok d) (hx : kIt.rd w v1 xs) (hox : kIt.ok xs) (hm : kM.rd w v2 m) (hom : kM.ok m) :
    Calls Tryz.prog 7 #[v, v1, v2] w fun e w' => ∃ v0, e = .returned (.tuple #[v0, .bool (itemScoresF d xs m).2]) ∧ kI.fr w' w.heap.size w'.heap.size v0 (itemScoresF d xs m).1 ∧ kI.ok (itemScoresF d xs m).1 ∧ Ext w w' := by
  obtain ⟨Ac, nc, cc, Al, nl, cl, r, b, p, f, rfl⟩ := kC.shape h
  obtain ⟨A, c, rfl, hl⟩ := kIt.lr hx
  obtain ⟨Am, nm, cm, Am', nm', cm', rfl⟩ := kM.shape hm
  have HR := hide h
  have HX := hide hx
  have HM := hide hm
  have a1 := hl.1; have a2 := hl.2.1
  have n1 := kIt.ok_len hox
  obtain ⟨W0, hW0⟩ : ∃ W0, Hid (W0 = (w.alloc (.cells #[.slice Ac nc cc, .slice Al nl cl, .int .i64 r, .int .i64 b, .int .i64 p, .int .i64 f] 26)).alloc (.cells #[.slice Am nm cm, .slice Am' nm' cm'] 30)) := ⟨_, rfl⟩
  have X0 : Hid (Ext w W0) := by rw [hW0.out]; exact (Ext.alloc w _).trans (Ext.alloc _ _)
  have B0 : Hid (Blk W0 w.heap.size #[.slice Ac nc cc, .slice Al nl cl, .int .i64 r, .int .i64 b, .int .i64 p, .int .i64 f] 26) := by rw [hW0.out]; exact (Blk.new rfl _ _).alloc _
  have B1 : Hid (Blk W0 (w.heap.size + 1) #[.slice Am nm cm, .slice Am' nm' cm'] 30) := by rw [hW0.out]; exact Blk.new (by simp) _ _
  have HJ := hide (fun (wq : World) (xq : Ext w wq) => s.elGood_m wq _ _ _ d xs m (kC.rd_ext HR.out xq) hok (kIt.rd_ext HX.out xq) hox (kM.rd_ext HM.out xq) hom)
  obtain ⟨F, hF⟩ : ∃ F, Hid (itemScoresF d xs m = F) := ⟨_, rfl⟩
  rw [hF.out]
  clear h hx hm hl
  obtain ⟨n, hn⟩ : ∃ n, Hid (xs.length = n) := ⟨_, rfl⟩
  rw [hn.out] at HJ n1 a1 ⊢
  go_enter Tryz.func7, Tryz.ntmps7
  go_wp2_with fail
  rw [← hW0.out]
  clear hW0
  refine (HJ.out _ X0.out).mono ?_
  rintro e w1 ⟨rfl, x1⟩
  replace X0 := hide (X0.out.trans x1)
  replace B0 := hide (B0.out.ext x1)
  replace B1 := hide (B1.out.ext x1)
  clear x1
  have c0_ := B0.out.cell; have c1_ := B1.out.cell
  cases hh : judgedB d xs m
  · have HF : Hid (F = ([], false)) := by show _ = _; rw [← hF.out]; simp [itemScoresF, hh]
    clear hh
    go_wp2
    go_ret2
    rw [HF.out]
    exact ⟨_, rfl, kI_nil _ _ _ (Nat.le_refl _), Nat.zero_le _, X0.out⟩
  have hj := jOk hh
  have h14 := hj.ls.n
  rw [hn.out] at h14
  have HF : Hid (F = (scoresN d xs m n, true)) := by show _ = _; rw [← hF.out, ← hn.out]; simp [itemScoresF, hh]
  have CS := hide (s.elScores_m w1 _ _ _ d xs m (kC.rd_ext HR.out X0.out) hok (kIt.rd_ext HX.out X0.out) (kM.rd_ext HM.out X0.out) hj)
  rw [hn.out] at CS
  clear hh hj
  go_wp2_with fail
  clear c0_ c1_
  refine CS.out.mono ?_
  rintro e w2 ⟨A9, c9, rfl, o9, x1⟩
  have O9 := hide o9
  have z0 := X0.out.size
  replace X0 := hide (X0.out.trans x1)
  have oc1 := o9.capn; have oc2 := o9.capm
  clear x1 o9
  go_wp2
  go_ret2
  rw [HF.out]
  exact ⟨_, rfl, kI_of (OwnI.lower O9.out z0), by show (scoresN d xs m n).length ≤ _; rw [scoresN_len]; omega, X0.out⟩
end Go.Proofs.YtaoeomgehpdedaaGreat
