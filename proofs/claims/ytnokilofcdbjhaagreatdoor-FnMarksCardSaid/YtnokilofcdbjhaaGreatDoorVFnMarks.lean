/- The walk of FnMarks: drawn marks; their text, judges and counts; a judge added, read and dropped; a text read. (Printed by fm.py.) -/
import Derived.Test.YtnokilofcdbjhaaGreatDoorJP
import Derived.Test.YtnokilofcdbjhaaGreatDoorJQ
import Derived.Test.YtnokilofcdbjhaaGreatDoorJR
import Derived.Deep.DeepCutAuto
import Derived.Deep.RegionHeld3
namespace Go.Proofs.YtnokilofcdbjhaaGreatDoor
open Go.RowKit Go.Sort
set_option linter.unusedVariables false

theorem text_two (d : MD) : (marksTextF d).2 = marksB d := by unfold marksTextF; cases marksB d <;> rfl
theorem judges_two (d : MD) : (judgesOfF d).2 = marksB d := by unfold judgesOfF; cases marksB d <;> rfl
theorem counts_two (d : MD) : (countGradesF d).2 = marksB d := by unfold countGradesF; cases marksB d <;> rfl
/-- What the law asks of valid marks, by the names of the walk. -/
theorem marks_law {d : MD} {S : List UInt8} {Z : Int} {zs : List Int} (h : marksB d = true) (hS : (marksTextF d).1 = S) (hZ : (judgesOfF d).1 = Z) (hz : (countGradesF d).1 = zs) :
    S.length ≤ 1048576 ∧ (parseF S).1 = d ∧ (parseF S).2 = true ∧ zs.sum = Z * (d.1.length : Int) ∧ IntKind.i64.wrap (Z * (d.1.length : Int)) = Z * (d.1.length : Int) ∧ Small zs ∧ areMarksF d (d.1.length : Int) = true ∧ d.1.length ≤ 14 := by
  obtain rfl : marksT d = S := by rw [← hS]; unfold marksTextF; rw [if_pos h]
  obtain rfl : (judges d : Int) = Z := by rw [← hZ]; unfold judgesOfF; rw [if_pos h]
  have c := counts_sum h
  rw [hz] at c
  have r := marksB_ok h
  have m := marksT_small h
  have hp := parse_back h
  have hb : (judges d : Int) * (d.1.length : Int) ≤ 9 * 14 := by
    have := Nat.mul_le_mul r.2.2.2.1 r.1
    have e : (((judges d * d.1.length : Nat)) : Int) = (judges d : Int) * (d.1.length : Int) := by push_cast; rfl
    omega
  have h0 : 0 ≤ (judges d : Int) * (d.1.length : Int) := by
    have e : (((judges d * d.1.length : Nat)) : Int) = (judges d : Int) * (d.1.length : Int) := by push_cast; rfl
    omega
  refine ⟨by omega, by rw [hp], by rw [hp], c.1, IntWalk.i64_in _ (by omega), c.2.1, ?_, r.1⟩
  unfold areMarksF
  rw [h]
  simp
/-- What the law asks of a judge added, by the names of the walk. -/
theorem added_law {d D : MD} {gs cs : List Int} (h : (addJudgeF d gs cs).2 = true) (hD : (addJudgeF d gs cs).1 = D) :
    ∃ L : Int, 1 ≤ L ∧ L ≤ 10 ∧ (judgesOfF D).1 = L ∧ (judgesOfF D).2 = true ∧ judgeMarksF D (L - 1) = (gs, cs, true) ∧ dropJudgeF D (L - 1) = (d, true) := by
  have a := aj_back h
  rw [hD] at a
  refine ⟨(judges d : Int) + 1, by omega, by omega, by rw [a.1], by rw [a.1], ?_, ?_⟩
  · rw [show (judges d : Int) + 1 - 1 = judges d by omega]; exact a.2.2.1
  · rw [show (judges d : Int) + 1 - 1 = judges d by omega]; exact a.2.2.2
set_option maxRecDepth 100000 in
set_option maxHeartbeats 20000000 in
theorem FnMarks_walk (a0 : Option Addr) (n0 c0 : Nat) (a1 : Option Addr) (n1 c1 : Nat) (w : World) (h0 : ArgB w a0 n0 c0) (h1 : ArgB w a1 n1 c1) (ht : Tab10 w) (hm : MaxLenIs w) :
    Calls Tryz.prog 3 #[.slice a0 n0 c0, .slice a1 n1 c1] w fun e w' => e = .returned (.bool true) ∧ Ext w w' := by
  have p0 := h0.cap; have p0' := h0.capm; have p1 := h1.cap; have p1' := h1.capm
  have H0 := hide h0
  have H1 := hide h1
  have TB := hide ht
  have MX := hide hm
  clear h0 h1 ht hm
  have X := hide (Ext.refl w)
  obtain ⟨sm, hsm⟩ : ∃ sm, Hid (IntKind.i64.wrap ((n0 : Int) + n1) = sm) := ⟨_, rfl⟩
  go_enter Tryz.func3, Tryz.ntmps3
  go_wp2_with fail
  · go_ret
    exact ⟨rfl, X.out⟩
  clear hsm p0 p0' p1 p1'
  refine (s.DrawMarksText_m _ _ _ _ H0.out).mono ?_
  rintro e w1 ⟨v, d, rfl, hr, hok, x1⟩
  replace X := hide (X.out.trans x1)
  replace H1 := hide (H1.out.ext x1)
  replace TB := hide (TB.out.ext x1)
  replace MX := hide (MX.out.ext x1)
  clear x1
  obtain ⟨aA, an, ac, aB, am, ae, rfl, dq⟩ := mq_rd hr.rd hok
  have M := hide dq
  clear hr hok dq H0
  obtain ⟨w2, hW⟩ : ∃ W, Hid (W = w1.alloc (.cells #[.slice aA an ac, .slice aB am ae] 25)) := ⟨_, rfl⟩
  have xa : Ext w1 w2 := by rw [hW.out]; exact Ext.alloc _ _
  obtain ⟨gP5, hg⟩ : ∃ g, Hid (g = w1.heap.size) := ⟨_, rfl⟩
  have P5 : Hid (Blk w2 gP5 #[.slice aA an ac, .slice aB am ae] 25) := by rw [hW.out, hg.out]; exact Blk.new rfl _ _
  replace X := hide (X.out.trans xa)
  replace H1 := hide (H1.out.ext xa)
  replace TB := hide (TB.out.ext xa)
  replace MX := hide (MX.out.ext xa)
  replace M := hide (M.out.ext xa)
  clear xa
  go_upto_region 4 with fail
  rw [← hW.out, ← hg.out]
  clear hW hg
  have qP5 := P5.out.cell
  have lP5 := P5.out.lt
  go_wp2_with fail
  clear qP5 lP5
  obtain ⟨B, hB⟩ : ∃ z, Hid (marksB d = z) := ⟨_, rfl⟩
  obtain ⟨S, hS⟩ : ∃ z, Hid ((marksTextF d).1 = z) := ⟨_, rfl⟩
  obtain ⟨Z, hZ⟩ : ∃ z, Hid ((judgesOfF d).1 = z) := ⟨_, rfl⟩
  obtain ⟨zs, hzs⟩ : ∃ z, Hid ((countGradesF d).1 = z) := ⟨_, rfl⟩
  refine (M.out.iText TB.out hS.out ((text_two d).trans hB.out)).mono ?_
  rintro e w3 ⟨rfl, x1⟩
  replace X := hide (X.out.trans x1)
  replace H1 := hide (H1.out.ext x1)
  replace TB := hide (TB.out.ext x1)
  replace MX := hide (MX.out.ext x1)
  replace M := hide (M.out.ext x1)
  replace P5 := hide (P5.out.ext x1)
  clear x1
  have qP5 := P5.out.cell
  have lP5 := P5.out.lt
  go_wp2_with fail
  clear qP5 lP5
  refine (M.out.sText hS.out ((text_two d).trans hB.out)).mono ?_
  rintro e w4 ⟨rfl, x1⟩
  replace X := hide (X.out.trans x1)
  replace H1 := hide (H1.out.ext x1)
  replace TB := hide (TB.out.ext x1)
  replace MX := hide (MX.out.ext x1)
  replace M := hide (M.out.ext x1)
  replace P5 := hide (P5.out.ext x1)
  clear x1
  have qP5 := P5.out.cell
  have lP5 := P5.out.lt
  go_wp2_with fail
  clear qP5 lP5
  refine (M.out.iJudges hZ.out ((judges_two d).trans hB.out)).mono ?_
  rintro e w5 ⟨rfl, x1⟩
  replace X := hide (X.out.trans x1)
  replace H1 := hide (H1.out.ext x1)
  replace TB := hide (TB.out.ext x1)
  replace MX := hide (MX.out.ext x1)
  replace M := hide (M.out.ext x1)
  replace P5 := hide (P5.out.ext x1)
  clear x1
  have qP5 := P5.out.cell
  have lP5 := P5.out.lt
  go_wp2_with fail
  clear qP5 lP5
  refine (M.out.sJudges hZ.out ((judges_two d).trans hB.out)).mono ?_
  rintro e w6 ⟨rfl, x1⟩
  replace X := hide (X.out.trans x1)
  replace H1 := hide (H1.out.ext x1)
  replace TB := hide (TB.out.ext x1)
  replace MX := hide (MX.out.ext x1)
  replace M := hide (M.out.ext x1)
  replace P5 := hide (P5.out.ext x1)
  clear x1
  have qP5 := P5.out.cell
  have lP5 := P5.out.lt
  go_wp2_with fail
  clear qP5 lP5
  refine (M.out.iCount hzs.out ((counts_two d).trans hB.out)).mono ?_
  rintro e w7 ⟨fA, fn, fc, rfl, dq, x1⟩
  replace X := hide (X.out.trans x1)
  replace H1 := hide (H1.out.ext x1)
  replace TB := hide (TB.out.ext x1)
  replace MX := hide (MX.out.ext x1)
  replace M := hide (M.out.ext x1)
  replace P5 := hide (P5.out.ext x1)
  clear x1
  have L14 := hide dq
  clear dq
  have qP5 := P5.out.cell
  have lP5 := P5.out.lt
  go_wp2_with fail
  clear qP5 lP5
  refine (M.out.sCount hzs.out ((counts_two d).trans hB.out)).mono ?_
  rintro e w8 ⟨gA, gn, gc, rfl, dq, x1⟩
  replace X := hide (X.out.trans x1)
  replace H1 := hide (H1.out.ext x1)
  replace TB := hide (TB.out.ext x1)
  replace MX := hide (MX.out.ext x1)
  replace M := hide (M.out.ext x1)
  replace P5 := hide (P5.out.ext x1)
  replace L14 := hide (L14.out.ext x1)
  clear x1
  have L16 := hide dq
  clear dq
  go_wp2_with fail
  refine (s.DrawAddJudge_m _ _ _ _ H1.out).mono ?_
  rintro e w9 ⟨v, v1, v2, da, gs, cs, rfl, hr, hok, hr1, hok1, hr2, hok2, x1⟩
  replace X := hide (X.out.trans x1)
  replace H1 := hide (H1.out.ext x1)
  replace TB := hide (TB.out.ext x1)
  replace MX := hide (MX.out.ext x1)
  replace M := hide (M.out.ext x1)
  replace P5 := hide (P5.out.ext x1)
  replace L14 := hide (L14.out.ext x1)
  replace L16 := hide (L16.out.ext x1)
  clear x1
  obtain ⟨bA, bn, bc, bB, bm, be, rfl, dq⟩ := mq_rd hr hok
  obtain ⟨hA, hn, hc, rfl, dq1⟩ := nq_rd hr1 hok1
  obtain ⟨kA, kn, kc, rfl, dq2⟩ := nq_rd hr2 hok2
  have MA := hide dq
  have NG := hide dq1
  have NC := hide dq2
  clear hr hok hr1 hok1 hr2 hok2 dq dq1 dq2
  obtain ⟨w10, hW⟩ : ∃ W, Hid (W = w9.alloc (.cells #[.slice bA bn bc, .slice bB bm be] 25)) := ⟨_, rfl⟩
  have xa : Ext w9 w10 := by rw [hW.out]; exact Ext.alloc _ _
  obtain ⟨gP18, hg⟩ : ∃ g, Hid (g = w9.heap.size) := ⟨_, rfl⟩
  have P18 : Hid (Blk w10 gP18 #[.slice bA bn bc, .slice bB bm be] 25) := by rw [hW.out, hg.out]; exact Blk.new rfl _ _
  replace X := hide (X.out.trans xa)
  replace H1 := hide (H1.out.ext xa)
  replace TB := hide (TB.out.ext xa)
  replace MX := hide (MX.out.ext xa)
  replace M := hide (M.out.ext xa)
  replace P5 := hide (P5.out.ext xa)
  replace L14 := hide (L14.out.ext xa)
  replace L16 := hide (L16.out.ext xa)
  replace MA := hide (MA.out.ext xa)
  replace NG := hide (NG.out.ext xa)
  replace NC := hide (NC.out.ext xa)
  clear xa
  go_upto_region 11 with fail
  rw [← hW.out, ← hg.out]
  clear hW hg
  have qP18 := P18.out.cell
  have lP18 := P18.out.lt
  go_wp2_with fail
  clear qP18 lP18
  obtain ⟨D1, hD1⟩ : ∃ z, Hid ((addJudgeF da gs cs).1 = z) := ⟨_, rfl⟩
  obtain ⟨J2, hJ2⟩ : ∃ z, Hid ((addJudgeF da gs cs).2 = z) := ⟨_, rfl⟩
  refine (MA.out.iAdd NG.out NC.out hD1.out hJ2.out).mono ?_
  rintro e w11 ⟨xA, xn, xc, xB, xm, xe, rfl, dq, x1⟩
  replace X := hide (X.out.trans x1)
  replace H1 := hide (H1.out.ext x1)
  replace TB := hide (TB.out.ext x1)
  replace MX := hide (MX.out.ext x1)
  replace M := hide (M.out.ext x1)
  replace P5 := hide (P5.out.ext x1)
  replace L14 := hide (L14.out.ext x1)
  replace L16 := hide (L16.out.ext x1)
  replace MA := hide (MA.out.ext x1)
  replace NG := hide (NG.out.ext x1)
  replace NC := hide (NC.out.ext x1)
  replace P18 := hide (P18.out.ext x1)
  clear x1
  have X21 := hide dq
  clear dq
  obtain ⟨w12, hW⟩ : ∃ W, Hid (W = w11.alloc (.cells #[.slice xA xn xc, .slice xB xm xe] 25)) := ⟨_, rfl⟩
  have xa : Ext w11 w12 := by rw [hW.out]; exact Ext.alloc _ _
  obtain ⟨gP21, hg⟩ : ∃ g, Hid (g = w11.heap.size) := ⟨_, rfl⟩
  have P21 : Hid (Blk w12 gP21 #[.slice xA xn xc, .slice xB xm xe] 25) := by rw [hW.out, hg.out]; exact Blk.new rfl _ _
  replace X := hide (X.out.trans xa)
  replace H1 := hide (H1.out.ext xa)
  replace TB := hide (TB.out.ext xa)
  replace MX := hide (MX.out.ext xa)
  replace M := hide (M.out.ext xa)
  replace P5 := hide (P5.out.ext xa)
  replace L14 := hide (L14.out.ext xa)
  replace L16 := hide (L16.out.ext xa)
  replace MA := hide (MA.out.ext xa)
  replace NG := hide (NG.out.ext xa)
  replace NC := hide (NC.out.ext xa)
  replace P18 := hide (P18.out.ext xa)
  replace X21 := hide (X21.out.ext xa)
  clear xa
  go_upto_region 12 with fail
  rw [← hW.out, ← hg.out]
  clear hW hg
  have qP18 := P18.out.cell
  have lP18 := P18.out.lt
  go_wp2_with fail
  clear qP18 lP18
  refine (MA.out.sAdd NG.out NC.out hD1.out hJ2.out).mono ?_
  rintro e w13 ⟨yA, yn, yc, yB, ym, ye, rfl, dq, x1⟩
  replace X := hide (X.out.trans x1)
  replace H1 := hide (H1.out.ext x1)
  replace TB := hide (TB.out.ext x1)
  replace MX := hide (MX.out.ext x1)
  replace M := hide (M.out.ext x1)
  replace P5 := hide (P5.out.ext x1)
  replace L14 := hide (L14.out.ext x1)
  replace L16 := hide (L16.out.ext x1)
  replace MA := hide (MA.out.ext x1)
  replace NG := hide (NG.out.ext x1)
  replace NC := hide (NC.out.ext x1)
  replace P18 := hide (P18.out.ext x1)
  replace X21 := hide (X21.out.ext x1)
  replace P21 := hide (P21.out.ext x1)
  clear x1
  have Y23 := hide dq
  clear dq
  obtain ⟨w14, hW⟩ : ∃ W, Hid (W = w13.alloc (.cells #[.slice yA yn yc, .slice yB ym ye] 25)) := ⟨_, rfl⟩
  have xa : Ext w13 w14 := by rw [hW.out]; exact Ext.alloc _ _
  obtain ⟨gP23, hg⟩ : ∃ g, Hid (g = w13.heap.size) := ⟨_, rfl⟩
  have P23 : Hid (Blk w14 gP23 #[.slice yA yn yc, .slice yB ym ye] 25) := by rw [hW.out, hg.out]; exact Blk.new rfl _ _
  replace X := hide (X.out.trans xa)
  replace H1 := hide (H1.out.ext xa)
  replace TB := hide (TB.out.ext xa)
  replace MX := hide (MX.out.ext xa)
  replace M := hide (M.out.ext xa)
  replace P5 := hide (P5.out.ext xa)
  replace L14 := hide (L14.out.ext xa)
  replace L16 := hide (L16.out.ext xa)
  replace MA := hide (MA.out.ext xa)
  replace NG := hide (NG.out.ext xa)
  replace NC := hide (NC.out.ext xa)
  replace P18 := hide (P18.out.ext xa)
  replace X21 := hide (X21.out.ext xa)
  replace P21 := hide (P21.out.ext xa)
  replace Y23 := hide (Y23.out.ext xa)
  clear xa
  go_upto_region 13 with fail
  rw [← hW.out, ← hg.out]
  clear hW hg
  go_wp2_with fail
  refine (s.DrawParseMarks_m _ _ _ _ H1.out).mono ?_
  rintro e w15 ⟨ty, rfl, hty, x1⟩
  replace X := hide (X.out.trans x1)
  replace H1 := hide (H1.out.ext x1)
  replace TB := hide (TB.out.ext x1)
  replace MX := hide (MX.out.ext x1)
  replace M := hide (M.out.ext x1)
  replace P5 := hide (P5.out.ext x1)
  replace L14 := hide (L14.out.ext x1)
  replace L16 := hide (L16.out.ext x1)
  replace MA := hide (MA.out.ext x1)
  replace NG := hide (NG.out.ext x1)
  replace NC := hide (NC.out.ext x1)
  replace P18 := hide (P18.out.ext x1)
  replace X21 := hide (X21.out.ext x1)
  replace P21 := hide (P21.out.ext x1)
  replace Y23 := hide (Y23.out.ext x1)
  replace P23 := hide (P23.out.ext x1)
  clear x1
  go_wp2_with fail
  obtain ⟨D3, hD3⟩ : ∃ z, Hid ((parseF ty).1 = z) := ⟨_, rfl⟩
  obtain ⟨J3, hJ3⟩ : ∃ z, Hid ((parseF ty).2 = z) := ⟨_, rfl⟩
  refine (iParse_q (by omega) MX.out hD3.out hJ3.out).mono ?_
  rintro e w16 ⟨pA, pn, pc, pB, pm, pe, rfl, dq, x1⟩
  replace X := hide (X.out.trans x1)
  replace H1 := hide (H1.out.ext x1)
  replace TB := hide (TB.out.ext x1)
  replace MX := hide (MX.out.ext x1)
  replace M := hide (M.out.ext x1)
  replace P5 := hide (P5.out.ext x1)
  replace L14 := hide (L14.out.ext x1)
  replace L16 := hide (L16.out.ext x1)
  replace MA := hide (MA.out.ext x1)
  replace NG := hide (NG.out.ext x1)
  replace NC := hide (NC.out.ext x1)
  replace P18 := hide (P18.out.ext x1)
  replace X21 := hide (X21.out.ext x1)
  replace P21 := hide (P21.out.ext x1)
  replace Y23 := hide (Y23.out.ext x1)
  replace P23 := hide (P23.out.ext x1)
  clear x1
  have X26 := hide dq
  clear dq
  obtain ⟨w17, hW⟩ : ∃ W, Hid (W = w16.alloc (.cells #[.slice pA pn pc, .slice pB pm pe] 25)) := ⟨_, rfl⟩
  have xa : Ext w16 w17 := by rw [hW.out]; exact Ext.alloc _ _
  obtain ⟨gP26, hg⟩ : ∃ g, Hid (g = w16.heap.size) := ⟨_, rfl⟩
  have P26 : Hid (Blk w17 gP26 #[.slice pA pn pc, .slice pB pm pe] 25) := by rw [hW.out, hg.out]; exact Blk.new rfl _ _
  replace X := hide (X.out.trans xa)
  replace H1 := hide (H1.out.ext xa)
  replace TB := hide (TB.out.ext xa)
  replace MX := hide (MX.out.ext xa)
  replace M := hide (M.out.ext xa)
  replace P5 := hide (P5.out.ext xa)
  replace L14 := hide (L14.out.ext xa)
  replace L16 := hide (L16.out.ext xa)
  replace MA := hide (MA.out.ext xa)
  replace NG := hide (NG.out.ext xa)
  replace NC := hide (NC.out.ext xa)
  replace P18 := hide (P18.out.ext xa)
  replace X21 := hide (X21.out.ext xa)
  replace P21 := hide (P21.out.ext xa)
  replace Y23 := hide (Y23.out.ext xa)
  replace P23 := hide (P23.out.ext xa)
  replace X26 := hide (X26.out.ext xa)
  clear xa
  go_upto_region 15 with fail
  rw [← hW.out, ← hg.out]
  clear hW hg
  go_wp2_with fail
  refine (sParse_q (by omega) hD3.out hJ3.out).mono ?_
  rintro e w18 ⟨qA, qn, qc, qB, qm, qe, rfl, dq, x1⟩
  replace X := hide (X.out.trans x1)
  replace H1 := hide (H1.out.ext x1)
  replace TB := hide (TB.out.ext x1)
  replace MX := hide (MX.out.ext x1)
  replace M := hide (M.out.ext x1)
  replace P5 := hide (P5.out.ext x1)
  replace L14 := hide (L14.out.ext x1)
  replace L16 := hide (L16.out.ext x1)
  replace MA := hide (MA.out.ext x1)
  replace NG := hide (NG.out.ext x1)
  replace NC := hide (NC.out.ext x1)
  replace P18 := hide (P18.out.ext x1)
  replace X21 := hide (X21.out.ext x1)
  replace P21 := hide (P21.out.ext x1)
  replace Y23 := hide (Y23.out.ext x1)
  replace P23 := hide (P23.out.ext x1)
  replace X26 := hide (X26.out.ext x1)
  replace P26 := hide (P26.out.ext x1)
  clear x1
  have Y28 := hide dq
  clear dq hty
  obtain ⟨w19, hW⟩ : ∃ W, Hid (W = w18.alloc (.cells #[.slice qA qn qc, .slice qB qm qe] 25)) := ⟨_, rfl⟩
  have xa : Ext w18 w19 := by rw [hW.out]; exact Ext.alloc _ _
  obtain ⟨gP28, hg⟩ : ∃ g, Hid (g = w18.heap.size) := ⟨_, rfl⟩
  have P28 : Hid (Blk w19 gP28 #[.slice qA qn qc, .slice qB qm qe] 25) := by rw [hW.out, hg.out]; exact Blk.new rfl _ _
  replace X := hide (X.out.trans xa)
  replace H1 := hide (H1.out.ext xa)
  replace TB := hide (TB.out.ext xa)
  replace MX := hide (MX.out.ext xa)
  replace M := hide (M.out.ext xa)
  replace P5 := hide (P5.out.ext xa)
  replace L14 := hide (L14.out.ext xa)
  replace L16 := hide (L16.out.ext xa)
  replace MA := hide (MA.out.ext xa)
  replace NG := hide (NG.out.ext xa)
  replace NC := hide (NC.out.ext xa)
  replace P18 := hide (P18.out.ext xa)
  replace X21 := hide (X21.out.ext xa)
  replace P21 := hide (P21.out.ext xa)
  replace Y23 := hide (Y23.out.ext xa)
  replace P23 := hide (P23.out.ext xa)
  replace X26 := hide (X26.out.ext xa)
  replace P26 := hide (P26.out.ext xa)
  replace Y28 := hide (Y28.out.ext xa)
  clear xa
  go_upto_region 16 with fail
  rw [← hW.out, ← hg.out]
  clear hW hg
  go_wp2_with fail
  refine (s.DrawAreMarks_m _ _ _ _ H1.out).mono ?_
  rintro e w20 ⟨v, db, y0, rfl, hr, hok, hy, x1⟩
  replace X := hide (X.out.trans x1)
  replace H1 := hide (H1.out.ext x1)
  replace TB := hide (TB.out.ext x1)
  replace MX := hide (MX.out.ext x1)
  replace M := hide (M.out.ext x1)
  replace P5 := hide (P5.out.ext x1)
  replace L14 := hide (L14.out.ext x1)
  replace L16 := hide (L16.out.ext x1)
  replace MA := hide (MA.out.ext x1)
  replace NG := hide (NG.out.ext x1)
  replace NC := hide (NC.out.ext x1)
  replace P18 := hide (P18.out.ext x1)
  replace X21 := hide (X21.out.ext x1)
  replace P21 := hide (P21.out.ext x1)
  replace Y23 := hide (Y23.out.ext x1)
  replace P23 := hide (P23.out.ext x1)
  replace X26 := hide (X26.out.ext x1)
  replace P26 := hide (P26.out.ext x1)
  replace Y28 := hide (Y28.out.ext x1)
  replace P28 := hide (P28.out.ext x1)
  clear x1
  obtain ⟨eA, en, ec, eB, em, ee, rfl, dq⟩ := mq_rd hr hok
  have MB := hide dq
  have Y0 := hide hy
  clear hr hok dq hy H1
  obtain ⟨w21, hW⟩ : ∃ W, Hid (W = w20.alloc (.cells #[.slice eA en ec, .slice eB em ee] 25)) := ⟨_, rfl⟩
  have xa : Ext w20 w21 := by rw [hW.out]; exact Ext.alloc _ _
  obtain ⟨gP30, hg⟩ : ∃ g, Hid (g = w20.heap.size) := ⟨_, rfl⟩
  have P30 : Hid (Blk w21 gP30 #[.slice eA en ec, .slice eB em ee] 25) := by rw [hW.out, hg.out]; exact Blk.new rfl _ _
  replace X := hide (X.out.trans xa)
  replace TB := hide (TB.out.ext xa)
  replace MX := hide (MX.out.ext xa)
  replace M := hide (M.out.ext xa)
  replace P5 := hide (P5.out.ext xa)
  replace L14 := hide (L14.out.ext xa)
  replace L16 := hide (L16.out.ext xa)
  replace MA := hide (MA.out.ext xa)
  replace NG := hide (NG.out.ext xa)
  replace NC := hide (NC.out.ext xa)
  replace P18 := hide (P18.out.ext xa)
  replace X21 := hide (X21.out.ext xa)
  replace P21 := hide (P21.out.ext xa)
  replace Y23 := hide (Y23.out.ext xa)
  replace P23 := hide (P23.out.ext xa)
  replace X26 := hide (X26.out.ext xa)
  replace P26 := hide (P26.out.ext xa)
  replace Y28 := hide (Y28.out.ext xa)
  replace P28 := hide (P28.out.ext xa)
  replace MB := hide (MB.out.ext xa)
  clear xa
  go_upto_region 17 with fail
  rw [← hW.out, ← hg.out]
  clear hW hg
  clear hD3 hJ3
  go_cut [187] (fun s187 wx => s187 = .bool false ∧ Ext w21 wx)
  case first =>
    as_aux_lemma =>
      clear hD1 hJ2 hB hS hZ hzs X
      have k1 : (B != B) = false := by simp
      have k2 : (J2 != J2) = false := by simp
      have k3 : (J3 != J3) = false := by simp
      have k4 : (Z != Z) = false := by simp
      obtain ⟨J4, hJ4⟩ : ∃ z, Hid (areMarksF db y0 = z) := ⟨_, rfl⟩
      have k6 : (J4 != J4) = false := by simp
      have qP21 := P21.out.cell
      have lP21 := P21.out.lt
      have qP23 := P23.out.cell
      have lP23 := P23.out.lt
      have qP26 := P26.out.cell
      have lP26 := P26.out.lt
      have qP28 := P28.out.cell
      have lP28 := P28.out.lt
      have qP30 := P30.out.cell
      have lP30 := P30.out.lt
      have SF := hide (fun (wq : World) (xq : Ext w21 wq) => (show (∀ i, wq.cell? ⟨gP21, i, none⟩ = #[Value.slice xA xn xc, .slice xB xm xe][i]?) ∧ (∀ i, wq.cell? ⟨gP23, i, none⟩ = #[Value.slice yA yn yc, .slice yB ym ye][i]?) ∧ (∀ i, wq.cell? ⟨gP26, i, none⟩ = #[Value.slice pA pn pc, .slice pB pm pe][i]?) ∧ (∀ i, wq.cell? ⟨gP28, i, none⟩ = #[Value.slice qA qn qc, .slice qB qm qe][i]?) ∧ (∀ i, wq.cell? ⟨gP30, i, none⟩ = #[Value.slice eA en ec, .slice eB em ee][i]?) from ⟨(P21.out.ext xq).cell, (P23.out.ext xq).cell, (P26.out.ext xq).cell, (P28.out.ext xq).cell, (P30.out.ext xq).cell⟩))
      have G1 := hide (fun (wq : World) (xq : Ext w21 wq) => (L14.out.ext xq).same (L16.out.ext xq))
      have G2 := hide (fun (wq : World) (xq : Ext w21 wq) => (X21.out.ext xq).same (Y23.out.ext xq))
      have G3 := hide (fun (wq : World) (xq : Ext w21 wq) => (X26.out.ext xq).same (Y28.out.ext xq))
      have G4 := hide (fun (wq : World) (xq : Ext w21 wq) => (MB.out.ext xq).iAre Y0.out hJ4.out)
      have G5 := hide (fun (wq : World) (xq : Ext w21 wq) => (MB.out.ext xq).sAre Y0.out hJ4.out)
      have D0 : Hid (Ext w21 w21.drew) := Ext.drew w21
      clear L14 L16 X21 Y23 X26 Y28 MB Y0 hJ4 TB MX M P5 MA NG NC P18
      dsimp only [List.append]
      go_region_held3 (fun wq => (∀ i, wq.cell? ⟨gP21, i, none⟩ = #[Value.slice xA xn xc, .slice xB xm xe][i]?) ∧ (∀ i, wq.cell? ⟨gP23, i, none⟩ = #[Value.slice yA yn yc, .slice yB ym ye][i]?) ∧ (∀ i, wq.cell? ⟨gP26, i, none⟩ = #[Value.slice pA pn pc, .slice pB pm pe][i]?) ∧ (∀ i, wq.cell? ⟨gP28, i, none⟩ = #[Value.slice qA qn qc, .slice qB qm qe][i]?) ∧ (∀ i, wq.cell? ⟨gP30, i, none⟩ = #[Value.slice eA en ec, .slice eB em ee][i]?))
        (first | with_reducible exact SF.out _ K5.out | with_reducible exact SF.out _ K4.out | with_reducible exact SF.out _ K3.out | with_reducible exact SF.out _ K2.out | with_reducible exact SF.out _ K1.out | with_reducible exact SF.out _ D0.out | fail)
        (first
          | (go_at_call 21; refine (G5.out _ K4.out).mono ?_; rintro e wz ⟨rfl, x3⟩; have K5 := hide (K4.out.trans x3); clear x3)
          | (go_at_call 20; refine (G4.out _ K3.out).mono ?_; rintro e wz ⟨rfl, x3⟩; have K4 := hide (K3.out.trans x3); clear x3)
          | (go_at_call 19; refine (G3.out _ K2.out).mono ?_; rintro e wz ⟨rfl, x3⟩; have K3 := hide (K2.out.trans x3); clear x3)
          | (go_at_call 19; refine (G2.out _ K1.out).mono ?_; rintro e wz ⟨rfl, x3⟩; have K2 := hide (K1.out.trans x3); clear x3)
          | (go_at_call 18; refine (G1.out _ D0.out).mono ?_; rintro e wz ⟨rfl, x3⟩; have K1 := hide (D0.out.trans x3); clear x3)
          | fail)
      all_goals
        go_wp2
        go_meet
        exact ⟨rfl, K5.out⟩
  case rest =>
    obtain ⟨rfl, xc⟩ := hcut
    replace X := hide (X.out.trans xc)
    replace TB := hide (TB.out.ext xc)
    replace MX := hide (MX.out.ext xc)
    replace M := hide (M.out.ext xc)
    replace P5 := hide (P5.out.ext xc)
    replace L14 := hide (L14.out.ext xc)
    replace L16 := hide (L16.out.ext xc)
    replace MA := hide (MA.out.ext xc)
    replace NG := hide (NG.out.ext xc)
    replace NC := hide (NC.out.ext xc)
    replace P18 := hide (P18.out.ext xc)
    replace X21 := hide (X21.out.ext xc)
    replace P21 := hide (P21.out.ext xc)
    replace Y23 := hide (Y23.out.ext xc)
    replace P23 := hide (P23.out.ext xc)
    replace X26 := hide (X26.out.ext xc)
    replace P26 := hide (P26.out.ext xc)
    replace Y28 := hide (Y28.out.ext xc)
    replace P28 := hide (P28.out.ext xc)
    replace MB := hide (MB.out.ext xc)
    replace P30 := hide (P30.out.ext xc)
    clear xc
    clear L14 X26 Y28 P26 P28 P30 MB
    clear Y0
    go_upto_if 188 with fail
    go_cut [] (fun wx => Ext wc wx)
    case first =>
      as_aux_lemma =>
        clear X hB hS hZ hzs MX TB
        cases J2
        · go_wp2
          go_meet
          exact Ext.refl _
        obtain ⟨L, l1, l2, e1, e2, e3, e4⟩ := added_law hJ2.out hD1.out
        clear hJ2 hD1
        have XX := hide (Ext.refl wc)
        have iL : InR (L - 1) := by unfold InR; omega
        have kL : (L != L) = false := by simp
        have qP21 := P21.out.cell
        have lP21 := P21.out.lt
        go_wp2_with fail
        clear qP21 lP21
        refine (X21.out.iJudges e1 e2).mono ?_
        rintro e w22 ⟨rfl, x1⟩
        replace M := hide (M.out.ext x1)
        replace P5 := hide (P5.out.ext x1)
        replace L16 := hide (L16.out.ext x1)
        replace MA := hide (MA.out.ext x1)
        replace NG := hide (NG.out.ext x1)
        replace NC := hide (NC.out.ext x1)
        replace P18 := hide (P18.out.ext x1)
        replace X21 := hide (X21.out.ext x1)
        replace P21 := hide (P21.out.ext x1)
        replace Y23 := hide (Y23.out.ext x1)
        replace P23 := hide (P23.out.ext x1)
        replace XX := hide (XX.out.trans x1)
        clear x1
        have qP23 := P23.out.cell
        have lP23 := P23.out.lt
        go_wp2_with fail
        clear qP23 lP23
        refine (Y23.out.sJudges e1 e2).mono ?_
        rintro e w23 ⟨rfl, x1⟩
        replace M := hide (M.out.ext x1)
        replace P5 := hide (P5.out.ext x1)
        replace L16 := hide (L16.out.ext x1)
        replace MA := hide (MA.out.ext x1)
        replace NG := hide (NG.out.ext x1)
        replace NC := hide (NC.out.ext x1)
        replace P18 := hide (P18.out.ext x1)
        replace X21 := hide (X21.out.ext x1)
        replace P21 := hide (P21.out.ext x1)
        replace Y23 := hide (Y23.out.ext x1)
        replace P23 := hide (P23.out.ext x1)
        replace XX := hide (XX.out.trans x1)
        clear x1
        have qP21 := P21.out.cell
        have lP21 := P21.out.lt
        go_wp2_with fail
        clear qP21 lP21
        refine (X21.out.iOf iL e3).mono ?_
        rintro e w24 ⟨uA, un, uc, vA, vn, vc, rfl, dq, dq1, x1⟩
        replace M := hide (M.out.ext x1)
        replace P5 := hide (P5.out.ext x1)
        replace L16 := hide (L16.out.ext x1)
        replace MA := hide (MA.out.ext x1)
        replace NG := hide (NG.out.ext x1)
        replace NC := hide (NC.out.ext x1)
        replace P18 := hide (P18.out.ext x1)
        replace X21 := hide (X21.out.ext x1)
        replace P21 := hide (P21.out.ext x1)
        replace Y23 := hide (Y23.out.ext x1)
        replace P23 := hide (P23.out.ext x1)
        replace XX := hide (XX.out.trans x1)
        clear x1
        have U36 := hide dq
        have U37 := hide dq1
        clear dq dq1
        have qP21 := P21.out.cell
        have lP21 := P21.out.lt
        go_wp2_with fail
        clear qP21 lP21
        refine (X21.out.iDrop iL e4).mono ?_
        rintro e w25 ⟨zA, zn, zc, zB, zm, ze, rfl, dq, x1⟩
        replace M := hide (M.out.ext x1)
        replace P5 := hide (P5.out.ext x1)
        replace L16 := hide (L16.out.ext x1)
        replace MA := hide (MA.out.ext x1)
        replace NG := hide (NG.out.ext x1)
        replace NC := hide (NC.out.ext x1)
        replace P18 := hide (P18.out.ext x1)
        replace X21 := hide (X21.out.ext x1)
        replace P21 := hide (P21.out.ext x1)
        replace Y23 := hide (Y23.out.ext x1)
        replace P23 := hide (P23.out.ext x1)
        replace XX := hide (XX.out.trans x1)
        replace U36 := hide (U36.out.ext x1)
        replace U37 := hide (U37.out.ext x1)
        clear x1
        have Z39 := hide dq
        clear dq
        obtain ⟨w26, hW⟩ : ∃ W, Hid (W = w25.alloc (.cells #[.slice zA zn zc, .slice zB zm ze] 25)) := ⟨_, rfl⟩
        have xa : Ext w25 w26 := by rw [hW.out]; exact Ext.alloc _ _
        obtain ⟨gP39, hg⟩ : ∃ g, Hid (g = w25.heap.size) := ⟨_, rfl⟩
        have P39 : Hid (Blk w26 gP39 #[.slice zA zn zc, .slice zB zm ze] 25) := by rw [hW.out, hg.out]; exact Blk.new rfl _ _
        replace M := hide (M.out.ext xa)
        replace P5 := hide (P5.out.ext xa)
        replace L16 := hide (L16.out.ext xa)
        replace MA := hide (MA.out.ext xa)
        replace NG := hide (NG.out.ext xa)
        replace NC := hide (NC.out.ext xa)
        replace P18 := hide (P18.out.ext xa)
        replace X21 := hide (X21.out.ext xa)
        replace P21 := hide (P21.out.ext xa)
        replace Y23 := hide (Y23.out.ext xa)
        replace P23 := hide (P23.out.ext xa)
        replace XX := hide (XX.out.trans xa)
        replace U36 := hide (U36.out.ext xa)
        replace U37 := hide (U37.out.ext xa)
        replace Z39 := hide (Z39.out.ext xa)
        clear xa
        have qP39 := P39.out.cell
        have lP39 := P39.out.lt
        have qP18 := P18.out.cell
        have lP18 := P18.out.lt
        go_wp2_with (go_at_call 18; rw [← hW.out, ← hg.out])
        clear hW hg
        clear qP39 lP39
        clear qP18 lP18
        refine (U36.out.same NG.out).mono ?_
        rintro e w27 ⟨rfl, x1⟩
        replace M := hide (M.out.ext x1)
        replace P5 := hide (P5.out.ext x1)
        replace L16 := hide (L16.out.ext x1)
        replace MA := hide (MA.out.ext x1)
        replace NG := hide (NG.out.ext x1)
        replace NC := hide (NC.out.ext x1)
        replace P18 := hide (P18.out.ext x1)
        replace X21 := hide (X21.out.ext x1)
        replace P21 := hide (P21.out.ext x1)
        replace Y23 := hide (Y23.out.ext x1)
        replace P23 := hide (P23.out.ext x1)
        replace XX := hide (XX.out.trans x1)
        replace U36 := hide (U36.out.ext x1)
        replace U37 := hide (U37.out.ext x1)
        replace Z39 := hide (Z39.out.ext x1)
        replace P39 := hide (P39.out.ext x1)
        clear x1
        have qP39 := P39.out.cell
        have lP39 := P39.out.lt
        have qP18 := P18.out.cell
        have lP18 := P18.out.lt
        go_wp2_with fail
        clear qP39 lP39
        clear qP18 lP18
        refine (U37.out.same NC.out).mono ?_
        rintro e w28 ⟨rfl, x1⟩
        replace M := hide (M.out.ext x1)
        replace P5 := hide (P5.out.ext x1)
        replace L16 := hide (L16.out.ext x1)
        replace MA := hide (MA.out.ext x1)
        replace NG := hide (NG.out.ext x1)
        replace NC := hide (NC.out.ext x1)
        replace P18 := hide (P18.out.ext x1)
        replace X21 := hide (X21.out.ext x1)
        replace P21 := hide (P21.out.ext x1)
        replace Y23 := hide (Y23.out.ext x1)
        replace P23 := hide (P23.out.ext x1)
        replace XX := hide (XX.out.trans x1)
        replace U36 := hide (U36.out.ext x1)
        replace U37 := hide (U37.out.ext x1)
        replace Z39 := hide (Z39.out.ext x1)
        replace P39 := hide (P39.out.ext x1)
        clear x1
        have qP39 := P39.out.cell
        have lP39 := P39.out.lt
        have qP18 := P18.out.cell
        have lP18 := P18.out.lt
        go_wp2_with fail
        clear qP39 lP39
        clear qP18 lP18
        refine (Z39.out.same MA.out).mono ?_
        rintro e w29 ⟨rfl, x1⟩
        replace M := hide (M.out.ext x1)
        replace P5 := hide (P5.out.ext x1)
        replace L16 := hide (L16.out.ext x1)
        replace MA := hide (MA.out.ext x1)
        replace NG := hide (NG.out.ext x1)
        replace NC := hide (NC.out.ext x1)
        replace P18 := hide (P18.out.ext x1)
        replace X21 := hide (X21.out.ext x1)
        replace P21 := hide (P21.out.ext x1)
        replace Y23 := hide (Y23.out.ext x1)
        replace P23 := hide (P23.out.ext x1)
        replace XX := hide (XX.out.trans x1)
        replace U36 := hide (U36.out.ext x1)
        replace U37 := hide (U37.out.ext x1)
        replace Z39 := hide (Z39.out.ext x1)
        replace P39 := hide (P39.out.ext x1)
        clear x1
        go_wp2
        go_meet
        exact XX.out
    case rest =>
      have xc := hcut
      replace X := hide (X.out.trans xc)
      replace TB := hide (TB.out.ext xc)
      replace MX := hide (MX.out.ext xc)
      replace M := hide (M.out.ext xc)
      replace P5 := hide (P5.out.ext xc)
      replace L16 := hide (L16.out.ext xc)
      replace MA := hide (MA.out.ext xc)
      replace NG := hide (NG.out.ext xc)
      replace NC := hide (NC.out.ext xc)
      replace P18 := hide (P18.out.ext xc)
      replace X21 := hide (X21.out.ext xc)
      replace P21 := hide (P21.out.ext xc)
      replace Y23 := hide (Y23.out.ext xc)
      replace P23 := hide (P23.out.ext xc)
      clear xc hcut
      clear X21 Y23 P21 P23 P18 MA NG NC
      clear hD1 hJ2
      cases B
      · go_wp2
        go_ret
        exact ⟨rfl, X.out⟩
      as_aux_lemma =>
        obtain ⟨s1, s2, s3, s4, s5, s6, s7, s8⟩ := marks_law hB.out hS.out hZ.out hzs.out
        have hit := M.out.items
        rw [← hit] at s4 s5 s7 s8
        clear hB hS hZ hzs hit
        obtain ⟨Q, hQ⟩ : ∃ q, Z * (an : Int) = q := ⟨_, rfl⟩
        rw [hQ] at s4 s5
        skip
        go_wp2_with fail
        refine (iParse_q s1 MX.out s2 s3).mono ?_
        rintro e w30 ⟨rA, rn, rc, rB, rm, re, rfl, dq, x1⟩
        replace X := hide (X.out.trans x1)
        replace TB := hide (TB.out.ext x1)
        replace MX := hide (MX.out.ext x1)
        replace M := hide (M.out.ext x1)
        replace P5 := hide (P5.out.ext x1)
        replace L16 := hide (L16.out.ext x1)
        clear x1
        have R41 := hide dq
        clear dq
        obtain ⟨w31, hW⟩ : ∃ W, Hid (W = w30.alloc (.cells #[.slice rA rn rc, .slice rB rm re] 25)) := ⟨_, rfl⟩
        have xa : Ext w30 w31 := by rw [hW.out]; exact Ext.alloc _ _
        obtain ⟨gP41, hg⟩ : ∃ g, Hid (g = w30.heap.size) := ⟨_, rfl⟩
        have P41 : Hid (Blk w31 gP41 #[.slice rA rn rc, .slice rB rm re] 25) := by rw [hW.out, hg.out]; exact Blk.new rfl _ _
        replace X := hide (X.out.trans xa)
        replace TB := hide (TB.out.ext xa)
        replace MX := hide (MX.out.ext xa)
        replace M := hide (M.out.ext xa)
        replace P5 := hide (P5.out.ext xa)
        replace L16 := hide (L16.out.ext xa)
        replace R41 := hide (R41.out.ext xa)
        clear xa
        go_upto_region 31 with fail
        rw [← hW.out, ← hg.out]
        clear hW hg
        have qP41 := P41.out.cell
        have lP41 := P41.out.lt
        have qP5 := P5.out.cell
        have lP5 := P5.out.lt
        have kQ : (Q == Q) = true := by simp
        have G1 := hide (fun (wq : World) (xq : Ext w31 wq) => (R41.out.ext xq).same (M.out.ext xq))
        have G2 := hide (fun (wq : World) (xq : Ext w31 wq) => (L16.out.ext xq).sum s6)
        rw [s4] at G2
        have G3 := hide (fun (wq : World) (xq : Ext w31 wq) => (M.out.ext xq).iAre (z := (an : Int)) (by unfold InR; omega) s7)
        have SF := hide (fun (wq : World) (xq : Ext w31 wq) => (show (∀ i, wq.cell? ⟨gP41, i, none⟩ = #[Value.slice rA rn rc, .slice rB rm re][i]?) ∧ (∀ i, wq.cell? ⟨gP5, i, none⟩ = #[Value.slice aA an ac, .slice aB am ae][i]?) from ⟨(P41.out.ext xq).cell, (P5.out.ext xq).cell⟩))
        have D0 : Hid (Ext w31 w31.drew) := Ext.drew w31
        go_region_held3 (fun wq => (∀ i, wq.cell? ⟨gP41, i, none⟩ = #[Value.slice rA rn rc, .slice rB rm re][i]?) ∧ (∀ i, wq.cell? ⟨gP5, i, none⟩ = #[Value.slice aA an ac, .slice aB am ae][i]?))
          (first | with_reducible exact SF.out _ K3.out | with_reducible exact SF.out _ K2.out | with_reducible exact SF.out _ K1.out | with_reducible exact SF.out _ D0.out | fail)
          (first
            | (go_at_call 20; refine (G3.out _ K2.out).mono ?_; rintro e wz ⟨rfl, x3⟩; have K3 := hide (K2.out.trans x3); clear x3)
            | (go_at_call 24; refine (G2.out _ K1.out).mono ?_; rintro e wy ⟨rfl, x2⟩; have K2 := hide (K1.out.trans x2); clear x2)
            | (go_at_call 19; refine (G1.out _ D0.out).mono ?_; rintro e wx ⟨rfl, x1⟩; have K1 := hide (D0.out.trans x1); clear x1)
            | fail)
        all_goals
          go_wp2
          go_ret
          exact ⟨rfl, X.out.trans K3.out⟩
end Go.Proofs.YtnokilofcdbjhaaGreatDoor
