/- A list is a programme. -/
import Derived.Test.YtiohjcadmahkgaaGreatZJ
namespace Go.Proofs.YtiohjcadmahkgaaGreat
open Go.RowKit Go.Sort
set_option linter.unusedVariables false

theorem progB_no {d : CoD} {xs : List ItD} (h : (codeB d && itemsB xs) = false) : progB d xs = false := by unfold progB; rw [h]; rfl
theorem progB_yes {d : CoD} {xs : List ItD} (h : (codeB d && itemsB xs) = true) : progB d xs = decide (((brokenF d xs).length : Int) = 0) := by unfold progB; rw [h]; rfl

set_option maxRecDepth 100000 in
set_option maxHeartbeats 2000000 in
theorem i.isProgramme_m (w : World) (v : Value) (d : CoD) (A : Option Addr) (c B : Nat) (xs : List ItD) (h : kC.rd w v d) (hok : kC.ok d) (hi : LR kdItem w B A c xs) (hB : B ≤ w.heap.size) (hwt : wtL kdItem xs ≤ 1048576) :
    Calls Tryz.prog 24 #[v, .slice A xs.length c] w fun e w' => e = .returned (.bool (progB d xs)) ∧ Ext w w' := by
  obtain ⟨Ac, nc, cc, Al, nl, cl, rr, b, p, f, rfl⟩ := kC.shape h
  have a1 := hi.1; have a2 := hi.2.1
  obtain ⟨W0, hW0⟩ : ∃ W0, Hid (W0 = w.alloc (.cells #[.slice Ac nc cc, .slice Al nl cl, .int .i64 rr, .int .i64 b, .int .i64 p, .int .i64 f] 34)) := ⟨_, rfl⟩
  have X0 : Hid (Ext w W0) := by rw [hW0.out]; exact Ext.alloc w _
  have BR := hide (i.BrokenRules_m W0 _ d A c B xs (kC.rd_ext h X0.out) hok (hi.ext X0.out hB) (Nat.le_trans hB X0.out.size) hwt)
  have NO := hide (progB_no (d := d) (xs := xs))
  have YS := hide (progB_yes (d := d) (xs := xs))
  have E1 : Hid ((codeB d && itemsB xs) = true → brkF d xs = (brokenF d xs, true)) := fun h => by unfold brkF; rw [if_pos h]
  have E2 : Hid ((codeB d && itemsB xs) = false → brkF d xs = ([], false)) := fun h => by unfold brkF; rw [if_neg (by rw [h]; decide)]
  obtain ⟨R, hR⟩ : ∃ R, Hid (progB d xs = R) := ⟨_, rfl⟩
  rw [hR.out] at NO YS ⊢
  clear h hi
  obtain ⟨n, hn⟩ : ∃ n, Hid (xs.length = n) := ⟨_, rfl⟩
  rw [hn.out] at a1 BR ⊢
  cases hg : (codeB d && itemsB xs)
  · have e2 := E2.out hg
    have HF := hide (NO.out hg)
    rw [e2] at BR
    clear e2 hg NO YS E1 E2
    go_enter Tryz.func24, Tryz.ntmps24
    go_wp2_with fail
    rw [← hW0.out]
    clear hW0
    refine BR.out.mono ?_
    rintro e w1 ⟨A', c', m, rfl, -, x1⟩
    have X1 := hide (X0.out.trans x1)
    clear x1 BR
    go_wp2
    go_ret
    exact ⟨ret_bool HF.out.symm, X1.out⟩
  · have e1 := E1.out hg
    have HF := hide (YS.out hg)
    rw [e1] at BR
    clear e1 hg NO YS E1 E2
    obtain ⟨bl, hbl⟩ : ∃ bl, Hid (brokenF d xs = bl) := ⟨_, rfl⟩
    rw [hbl.out] at BR HF
    go_enter Tryz.func24, Tryz.ntmps24
    go_wp2_with fail
    rw [← hW0.out]
    clear hW0
    refine BR.out.mono ?_
    rintro e w1 ⟨A', c', m, rfl, ho, x1⟩
    have X1 := hide (X0.out.trans x1)
    have hl : Hid (bl.length = m) := ho.len
    rw [hl.out] at HF
    clear x1 BR ho
    by_cases hm : m = 0
    · subst hm
      have HT : Hid (R = true) := by show _ = _; rw [HF.out]; simp
      clear HF hl
      go_wp2
      go_ret
      exact ⟨ret_bool HT.out.symm, X1.out⟩
    · have HT : Hid (R = false) := by show _ = _; rw [HF.out]; simp; omega
      have g1 : ((m : Int) == 0) = false := by rw [beq_eq_false_iff_ne]; omega
      clear HF hl
      go_wp2
      go_ret
      exact ⟨ret_bool HT.out.symm, X1.out⟩

set_option maxRecDepth 100000 in
set_option maxHeartbeats 2000000 in
theorem s.pgAsked_m (w : World) (v : Value) (d : CoD) (A : Option Addr) (c B : Nat) (xs : List ItD) (h : kC.rd w v d) (hok : kC.ok d) (hi : LR kdItem w B A c xs) (hB : B ≤ w.heap.size) (hwt : wtL kdItem xs ≤ 1048576) :
    Calls Tryz.prog 40 #[v, .slice A xs.length c] w fun e w' => e = .returned (.bool (codeB d && itemsB xs)) ∧ Ext w w' := by
  obtain ⟨Ac, nc, cc, Al, nl, cl, rr, b, p, f, rfl⟩ := kC.shape h
  have a1 := hi.1; have a2 := hi.2.1
  obtain ⟨W0, hW0⟩ : ∃ W0, Hid (W0 = w.alloc (.cells #[.slice Ac nc cc, .slice Al nl cl, .int .i64 rr, .int .i64 b, .int .i64 p, .int .i64 f] 34)) := ⟨_, rfl⟩
  have X0 : Hid (Ext w W0) := by rw [hW0.out]; exact Ext.alloc w _
  have CG := hide (s.cdGood_m W0 _ d (kC.rd_ext h X0.out) hok)
  have IL := hide (fun (wq : World) (xq : Ext w wq) => s.itList_any wq A c B xs (hi.ext xq hB) (Nat.le_trans hB xq.size) hwt)
  clear h hi
  obtain ⟨n, hn⟩ : ∃ n, Hid (xs.length = n) := ⟨_, rfl⟩
  rw [hn.out] at a1 IL ⊢
  generalize codeB d = F at *
  generalize itemsB xs = G at *
  cases F
  · go_enter Tryz.func40, Tryz.ntmps40
    go_wp2_with fail
    rw [← hW0.out]
    clear hW0
    refine CG.out.mono ?_
    rintro e w1 ⟨rfl, x1⟩
    have X1 := hide (X0.out.trans x1)
    clear x1 CG IL
    go_wp2
    go_ret
    exact ⟨rfl, X1.out⟩
  · go_enter Tryz.func40, Tryz.ntmps40
    go_wp2_with fail
    rw [← hW0.out]
    clear hW0
    refine CG.out.mono ?_
    rintro e w1 ⟨rfl, x1⟩
    have X1 := hide (X0.out.trans x1)
    clear x1 CG
    go_wp2_with fail
    refine (IL.out w1 X1.out).mono ?_
    rintro e w2 ⟨rfl, x2⟩
    have X2 := hide (X1.out.trans x2)
    clear x2 IL
    go_wp2
    go_ret
    exact ⟨rfl, X2.out⟩

set_option maxRecDepth 100000 in
set_option maxHeartbeats 2000000 in
theorem s.pgGood_m (w : World) (v : Value) (d : CoD) (A : Option Addr) (c B : Nat) (xs : List ItD) (h : kC.rd w v d) (hok : kC.ok d) (hi : LR kdItem w B A c xs) (hB : B ≤ w.heap.size) (hwt : wtL kdItem xs ≤ 1048576) :
    Calls Tryz.prog 18 #[v, .slice A xs.length c] w fun e w' => e = .returned (.bool (progB d xs)) ∧ Ext w w' := by
  obtain ⟨Ac, nc, cc, Al, nl, cl, rr, b, p, f, rfl⟩ := kC.shape h
  have a1 := hi.1; have a2 := hi.2.1
  obtain ⟨W0, hW0⟩ : ∃ W0, Hid (W0 = w.alloc (.cells #[.slice Ac nc cc, .slice Al nl cl, .int .i64 rr, .int .i64 b, .int .i64 p, .int .i64 f] 34)) := ⟨_, rfl⟩
  have X0 : Hid (Ext w W0) := by rw [hW0.out]; exact Ext.alloc w _
  have B0 : Hid (Blk W0 w.heap.size #[.slice Ac nc cc, .slice Al nl cl, .int .i64 rr, .int .i64 b, .int .i64 p, .int .i64 f] 34) := by rw [hW0.out]; exact Blk.new rfl _ _
  have PA := hide (s.pgAsked_m W0 _ d A c B xs (kC.rd_ext h X0.out) hok (hi.ext X0.out hB) (Nat.le_trans hB X0.out.size) hwt)
  have PF := hide (fun (hg : (codeB d && itemsB xs) = true) (wq : World) (xq : Ext w wq) => s.pgFaults_m wq _ d A c B xs (kC.rd_ext h xq) hok (hi.ext xq hB) (Nat.le_trans hB xq.size) (pgOk (by rw [Bool.and_eq_true] at hg; exact hg.1) (by rw [Bool.and_eq_true] at hg; exact hg.2) hwt))
  have NO := hide (progB_no (d := d) (xs := xs))
  have YS := hide (progB_yes (d := d) (xs := xs))
  obtain ⟨R, hR⟩ : ∃ R, Hid (progB d xs = R) := ⟨_, rfl⟩
  rw [hR.out] at NO YS ⊢
  clear h hi
  obtain ⟨n, hn⟩ : ∃ n, Hid (xs.length = n) := ⟨_, rfl⟩
  rw [hn.out] at a1 PA PF ⊢
  cases hg : (codeB d && itemsB xs)
  · have HF := hide (NO.out hg)
    rw [hg] at PA
    clear hg NO YS PF
    go_enter Tryz.func18, Tryz.ntmps18
    go_wp2_with fail
    rw [← hW0.out]
    clear hW0
    refine PA.out.mono ?_
    rintro e w1 ⟨rfl, x1⟩
    have X1 := hide (X0.out.trans x1)
    clear x1 PA
    go_wp2
    go_ret
    exact ⟨ret_bool HF.out.symm, X1.out⟩
  · have HF := hide (YS.out hg)
    have PQ := hide (PF.out hg)
    rw [hg] at PA
    clear hg NO YS PF
    obtain ⟨bl, hbl⟩ : ∃ bl, Hid (brokenF d xs = bl) := ⟨_, rfl⟩
    rw [hbl.out] at PQ HF
    go_enter Tryz.func18, Tryz.ntmps18
    go_wp2_with fail
    rw [← hW0.out]
    clear hW0
    refine PA.out.mono ?_
    rintro e w1 ⟨rfl, x1⟩
    have X1 := hide (X0.out.trans x1)
    have cB := (B0.out.ext x1).cell
    clear x1 PA
    go_wp2_with fail
    refine (PQ.out w1 X1.out).mono ?_
    rintro e w2 ⟨A', c', m, rfl, ho, x2⟩
    have X2 := hide (X1.out.trans x2)
    have hl : Hid (bl.length = m) := ho.len
    rw [hl.out] at HF
    clear x2 PQ ho cB
    by_cases hm : m = 0
    · subst hm
      have HT : Hid (R = true) := by show _ = _; rw [HF.out]; simp
      clear HF hl
      go_wp2
      go_ret
      exact ⟨ret_bool HT.out.symm, X2.out⟩
    · have HT : Hid (R = false) := by show _ = _; rw [HF.out]; simp; omega
      have g1 : ((m : Int) == 0) = false := by rw [beq_eq_false_iff_ne]; omega
      clear HF hl
      go_wp2
      go_ret
      exact ⟨ret_bool HT.out.symm, X2.out⟩
end Go.Proofs.YtiohjcadmahkgaaGreat
