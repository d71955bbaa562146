/- The family of an item, as the laws ask for it. (Printed by fg.py.) -/
import Derived.Test.YtijgndfhfggipaaFF
import Derived.Test.YtijgndfhfggipaaGH
import Derived.Test.YtijgndfhfggipaaRL
import Derived.Test.YtijgndfhfggipaaGR
namespace Go.Proofs.Ytijgndfhfggipaa
open Go.RowKit Go.Sort
set_option linter.unusedVariables false

set_option maxRecDepth 100000 in
set_option maxHeartbeats 1000000 in
theorem i.FamilyOf_c (w : World) (v v' : Value) (d : CoD) (x : ItD) (h : kC.rd w v d) (hok : kC.ok d) (hx : kIm.rd w v' x) (hox : kIm.ok x) :
    Calls Try.prog 17 #[v, v'] w fun e w' => e = .returned (.tuple #[.int .i64 (famOf d x).1, .bool (famOf d x).2]) ∧ Ext w w' := by
  obtain ⟨Ac, nc, cc, Al, nl, cl, r, b, p, f, rfl⟩ := kC.shape h
  obtain ⟨vs, rfl, hx2⟩ := hx
  obtain ⟨A1, c1, A2, c2, rfl, h1, h2⟩ := kdItem.open_ hx2
  have IC := hide (fun (wq : World) (xq : Ext w wq) => i.IsCode_m wq _ d (kC.rd_ext h xq) hok)
  have II := hide (fun (wq : World) (xq : Ext w wq) => i.IsItem_any wq _ x (kdItem.rd_more (kdItem.rd_ext hx2 xq (Nat.le_refl _)) xq.size) hox)
  have FA := hide (fun (h1 : codeB d = true) (h2 : itemB x = true) (wq : World) (xq : Ext w wq) => i.familyOf_c wq _ d _ x (kC.rd_ext h xq) hok (codeB_ok h1) (kdItem.rd_more (kdItem.rd_ext hx2 xq (Nat.le_refl _)) xq.size) (itemB_ok h2).1)
  obtain ⟨F, hF⟩ : ∃ F, Hid (famOf d x = F) := ⟨_, rfl⟩
  rw [hF.out]
  rw [kdItem.val3] at II FA ⊢
  clear h hx2 h1 h2
  generalize x.1.length = n1 at *
  generalize x.2.1.length = n2 at *
  generalize x.2.2 = q at *
  obtain ⟨W0, hW0⟩ : ∃ W0, Hid (W0 = (w.alloc (.cells #[.slice Ac nc cc, .slice Al nl cl, .int .i64 r, .int .i64 b, .int .i64 p, .int .i64 f] 26)).alloc (.cells #[.slice A1 n1 c1, .slice A2 n2 c2, .bool q] 39)) := ⟨_, rfl⟩
  have X0 : Hid (Ext w W0) := by rw [hW0.out]; exact (Ext.alloc w _).trans (Ext.alloc _ _)
  have B0 : Hid (Blk W0 w.heap.size #[.slice Ac nc cc, .slice Al nl cl, .int .i64 r, .int .i64 b, .int .i64 p, .int .i64 f] 26) := by rw [hW0.out]; exact (Blk.new rfl _ _).alloc _
  have B1 : Hid (Blk W0 (w.heap.size + 1) #[.slice A1 n1 c1, .slice A2 n2 c2, .bool q] 39) := by rw [hW0.out]; exact Blk.new (by simp) _ _
  go_enter Try.func17, Try.ntmps17
  go_wp2_with fail
  rw [← hW0.out]
  clear hW0
  refine (IC.out W0 X0.out).mono ?_
  rintro e w1 ⟨rfl, x1⟩
  have X1 := hide (X0.out.trans x1)
  replace B0 := hide (B0.out.ext x1)
  replace B1 := hide (B1.out.ext x1)
  have cB := B0.out.cell
  have cC := B1.out.cell
  clear x1
  cases h1 : codeB d
  · have HF : Hid (F = (0, false)) := by show _ = _; rw [← hF.out]; unfold famOf; rw [h1]; rfl
    clear h1 II FA
    go_wp2
    go_ret2
    rw [HF.out]
    exact ⟨rfl, X1.out⟩
  · go_wp2_with fail
    clear cB cC
    refine (II.out w1 X1.out).mono ?_
    rintro e w2 ⟨rfl, x1⟩
    have X2 := hide (X1.out.trans x1)
    replace B0 := hide (B0.out.ext x1)
    replace B1 := hide (B1.out.ext x1)
    have cB := B0.out.cell
    have cC := B1.out.cell
    clear x1
    cases h2 : itemB x
    · have HF : Hid (F = (0, false)) := by show _ = _; rw [← hF.out]; unfold famOf; rw [h1, h2]; rfl
      clear h1 h2 FA
      go_wp2
      go_ret2
      rw [HF.out]
      exact ⟨rfl, X2.out⟩
    · have FQ := hide (FA.out h1 h2)
      obtain ⟨z, hz⟩ : ∃ z, Hid (famI d x = z) := ⟨_, rfl⟩
      rw [hz.out] at FQ
      by_cases hn : z < 0
      · have HF : Hid (F = (0, false)) := by show _ = _; rw [← hF.out]; unfold famOf; rw [h1, h2, hz.out, decide_eq_false (show ¬ 0 ≤ z by omega)]; rfl
        clear h1 h2 FA
        go_wp2_with fail
        clear cB cC
        refine (FQ.out w2 X2.out).mono ?_
        rintro e w3 ⟨rfl, x1⟩
        have X3 := hide (X2.out.trans x1)
        replace B0 := hide (B0.out.ext x1)
        replace B1 := hide (B1.out.ext x1)
        have cB := B0.out.cell
        have cC := B1.out.cell
        clear x1
        go_wp2
        go_ret2
        rw [HF.out]
        exact ⟨rfl, X3.out⟩
      · have HF : Hid (F = (z, true)) := by show _ = _; rw [← hF.out]; unfold famOf; rw [h1, h2, hz.out, decide_eq_true (show 0 ≤ z by omega)]; rfl
        clear h1 h2 FA
        go_wp2_with fail
        clear cB cC
        refine (FQ.out w2 X2.out).mono ?_
        rintro e w3 ⟨rfl, x1⟩
        have X3 := hide (X2.out.trans x1)
        replace B0 := hide (B0.out.ext x1)
        replace B1 := hide (B1.out.ext x1)
        have cB := B0.out.cell
        have cC := B1.out.cell
        clear x1
        go_wp2_with fail
        clear cB cC
        refine (FQ.out w3 X3.out).mono ?_
        rintro e w4 ⟨rfl, x1⟩
        have X4 := hide (X3.out.trans x1)
        replace B0 := hide (B0.out.ext x1)
        replace B1 := hide (B1.out.ext x1)
        have cB := B0.out.cell
        have cC := B1.out.cell
        clear x1
        go_wp2
        go_ret2
        rw [HF.out]
        exact ⟨rfl, X4.out⟩
set_option maxRecDepth 100000 in
set_option maxHeartbeats 1000000 in
theorem s.FamilyOf_c (w : World) (v v' : Value) (d : CoD) (x : ItD) (h : kC.rd w v d) (hok : kC.ok d) (hx : kIm.rd w v' x) (hox : kIm.ok x) :
    Calls Try.prog 18 #[v, v'] w fun e w' => e = .returned (.tuple #[.int .i64 (famOf d x).1, .bool (famOf d x).2]) ∧ Ext w w' := by
  obtain ⟨Ac, nc, cc, Al, nl, cl, r, b, p, f, rfl⟩ := kC.shape h
  obtain ⟨vs, rfl, hx2⟩ := hx
  obtain ⟨A1, c1, A2, c2, rfl, h1, h2⟩ := kdItem.open_ hx2
  have IC := hide (fun (wq : World) (xq : Ext w wq) => s.cdGood_m wq _ d (kC.rd_ext h xq) hok)
  have II := hide (fun (wq : World) (xq : Ext w wq) => s.itGood_any wq _ x (kdItem.rd_more (kdItem.rd_ext hx2 xq (Nat.le_refl _)) xq.size) hox)
  have FA := hide (fun (h1 : codeB d = true) (h2 : itemB x = true) (wq : World) (xq : Ext w wq) => s.pgFamily_c wq _ d _ x (kC.rd_ext h xq) hok (codeB_ok h1) (kdItem.rd_more (kdItem.rd_ext hx2 xq (Nat.le_refl _)) xq.size) (itemB_ok h2).1)
  obtain ⟨F, hF⟩ : ∃ F, Hid (famOf d x = F) := ⟨_, rfl⟩
  rw [hF.out]
  rw [kdItem.val3] at II FA ⊢
  clear h hx2 h1 h2
  generalize x.1.length = n1 at *
  generalize x.2.1.length = n2 at *
  generalize x.2.2 = q at *
  obtain ⟨W0, hW0⟩ : ∃ W0, Hid (W0 = (w.alloc (.cells #[.slice Ac nc cc, .slice Al nl cl, .int .i64 r, .int .i64 b, .int .i64 p, .int .i64 f] 26)).alloc (.cells #[.slice A1 n1 c1, .slice A2 n2 c2, .bool q] 39)) := ⟨_, rfl⟩
  have X0 : Hid (Ext w W0) := by rw [hW0.out]; exact (Ext.alloc w _).trans (Ext.alloc _ _)
  have B0 : Hid (Blk W0 w.heap.size #[.slice Ac nc cc, .slice Al nl cl, .int .i64 r, .int .i64 b, .int .i64 p, .int .i64 f] 26) := by rw [hW0.out]; exact (Blk.new rfl _ _).alloc _
  have B1 : Hid (Blk W0 (w.heap.size + 1) #[.slice A1 n1 c1, .slice A2 n2 c2, .bool q] 39) := by rw [hW0.out]; exact Blk.new (by simp) _ _
  go_enter Try.func18, Try.ntmps18
  go_wp2_with fail
  rw [← hW0.out]
  clear hW0
  refine (IC.out W0 X0.out).mono ?_
  rintro e w1 ⟨rfl, x1⟩
  have X1 := hide (X0.out.trans x1)
  replace B0 := hide (B0.out.ext x1)
  replace B1 := hide (B1.out.ext x1)
  have cB := B0.out.cell
  have cC := B1.out.cell
  clear x1
  cases h1 : codeB d
  · have HF : Hid (F = (0, false)) := by show _ = _; rw [← hF.out]; unfold famOf; rw [h1]; rfl
    clear h1 II FA
    go_wp2
    go_ret2
    rw [HF.out]
    exact ⟨rfl, X1.out⟩
  · go_wp2_with fail
    clear cB cC
    refine (II.out w1 X1.out).mono ?_
    rintro e w2 ⟨rfl, x1⟩
    have X2 := hide (X1.out.trans x1)
    replace B0 := hide (B0.out.ext x1)
    replace B1 := hide (B1.out.ext x1)
    have cB := B0.out.cell
    have cC := B1.out.cell
    clear x1
    cases h2 : itemB x
    · have HF : Hid (F = (0, false)) := by show _ = _; rw [← hF.out]; unfold famOf; rw [h1, h2]; rfl
      clear h1 h2 FA
      go_wp2
      go_ret2
      rw [HF.out]
      exact ⟨rfl, X2.out⟩
    · have FQ := hide (FA.out h1 h2)
      obtain ⟨z, hz⟩ : ∃ z, Hid (famI d x = z) := ⟨_, rfl⟩
      rw [hz.out] at FQ
      by_cases hn : z < 0
      · have HF : Hid (F = (0, false)) := by show _ = _; rw [← hF.out]; unfold famOf; rw [h1, h2, hz.out, decide_eq_false (show ¬ 0 ≤ z by omega)]; rfl
        clear h1 h2 FA
        go_wp2_with fail
        clear cB cC
        refine (FQ.out w2 X2.out).mono ?_
        rintro e w3 ⟨rfl, x1⟩
        have X3 := hide (X2.out.trans x1)
        replace B0 := hide (B0.out.ext x1)
        replace B1 := hide (B1.out.ext x1)
        have cB := B0.out.cell
        have cC := B1.out.cell
        clear x1
        go_wp2
        go_ret2
        rw [HF.out]
        exact ⟨rfl, X3.out⟩
      · have HF : Hid (F = (z, true)) := by show _ = _; rw [← hF.out]; unfold famOf; rw [h1, h2, hz.out, decide_eq_true (show 0 ≤ z by omega)]; rfl
        clear h1 h2 FA
        go_wp2_with fail
        clear cB cC
        refine (FQ.out w2 X2.out).mono ?_
        rintro e w3 ⟨rfl, x1⟩
        have X3 := hide (X2.out.trans x1)
        replace B0 := hide (B0.out.ext x1)
        replace B1 := hide (B1.out.ext x1)
        have cB := B0.out.cell
        have cC := B1.out.cell
        clear x1
        go_wp2_with fail
        clear cB cC
        refine (FQ.out w3 X3.out).mono ?_
        rintro e w4 ⟨rfl, x1⟩
        have X4 := hide (X3.out.trans x1)
        replace B0 := hide (B0.out.ext x1)
        replace B1 := hide (B1.out.ext x1)
        have cB := B0.out.cell
        have cC := B1.out.cell
        clear x1
        go_wp2
        go_ret2
        rw [HF.out]
        exact ⟨rfl, X4.out⟩
set_option maxRecDepth 100000 in
set_option maxHeartbeats 1000000 in
theorem i.ItemFamily_c (w : World) (v v' : Value) (d : CoD) (x : ItD) (h : kC.rd w v d) (hok : kC.ok d) (hx : kIm.rd w v' x) (hox : kIm.ok x) :
    Calls Try.prog 20 #[v, v'] w fun e w' => e = .returned (.tuple #[.int .i64 (famIt d x).1, .bool (famIt d x).2]) ∧ Ext w w' := by
  obtain ⟨Ac, nc, cc, Al, nl, cl, r, b, p, f, rfl⟩ := kC.shape h
  obtain ⟨vs, rfl, hx2⟩ := hx
  obtain ⟨A1, c1, A2, c2, rfl, h1, h2⟩ := kdItem.open_ hx2
  have GD := hide (fun (wq : World) (xq : Ext w wq) => i.isKnownItem_k wq _ d _ x (kC.rd_ext h xq) hok (kIm.rd_ext (show kIm.rd w _ x from ⟨_, rfl, hx2⟩) xq) hox)
  have FA := hide (fun (hg : (codeB d && itemB x && knownI d.1 x) = true) (wq : World) (xq : Ext w wq) => i.familyOf_m wq _ d _ x (kC.rd_ext h xq) hok (codeB_ok (by simp only [Bool.and_eq_true] at hg; exact hg.1.1)) (kdItem.rd_more (kdItem.rd_ext hx2 xq (Nat.le_refl _)) xq.size) (itOk (by simp only [Bool.and_eq_true] at hg; exact hg.1.2) (by simp only [Bool.and_eq_true] at hg; exact hg.2)))
  obtain ⟨F, hF⟩ : ∃ F, Hid (famIt d x = F) := ⟨_, rfl⟩
  rw [hF.out]
  rw [kdItem.val3] at GD FA ⊢
  clear h hx2 h1 h2
  generalize x.1.length = n1 at *
  generalize x.2.1.length = n2 at *
  generalize x.2.2 = q at *
  obtain ⟨W0, hW0⟩ : ∃ W0, Hid (W0 = (w.alloc (.cells #[.slice Ac nc cc, .slice Al nl cl, .int .i64 r, .int .i64 b, .int .i64 p, .int .i64 f] 26)).alloc (.cells #[.slice A1 n1 c1, .slice A2 n2 c2, .bool q] 39)) := ⟨_, rfl⟩
  have X0 : Hid (Ext w W0) := by rw [hW0.out]; exact (Ext.alloc w _).trans (Ext.alloc _ _)
  have B0 : Hid (Blk W0 w.heap.size #[.slice Ac nc cc, .slice Al nl cl, .int .i64 r, .int .i64 b, .int .i64 p, .int .i64 f] 26) := by rw [hW0.out]; exact (Blk.new rfl _ _).alloc _
  have B1 : Hid (Blk W0 (w.heap.size + 1) #[.slice A1 n1 c1, .slice A2 n2 c2, .bool q] 39) := by rw [hW0.out]; exact Blk.new (by simp) _ _
  go_enter Try.func20, Try.ntmps20
  go_wp2_with fail
  rw [← hW0.out]
  clear hW0
  refine (GD.out W0 X0.out).mono ?_
  rintro e w1 ⟨rfl, x1⟩
  have X1 := hide (X0.out.trans x1)
  replace B0 := hide (B0.out.ext x1)
  replace B1 := hide (B1.out.ext x1)
  have cB := B0.out.cell
  have cC := B1.out.cell
  clear x1
  cases hg : (codeB d && itemB x && knownI d.1 x)
  · have HF : Hid (F = (0, false)) := by show _ = _; rw [← hF.out]; unfold famIt; rw [hg]; rfl
    clear hg FA
    go_wp2
    go_ret2
    rw [HF.out]
    exact ⟨rfl, X1.out⟩
  · have FQ := hide (FA.out hg)
    have HF : Hid (F = (familyF d x, true)) := by show _ = _; rw [← hF.out]; unfold famIt; rw [hg]; rfl
    clear hg FA
    generalize familyF d x = z at *
    go_wp2_with fail
    clear cB cC
    refine (FQ.out w1 X1.out).mono ?_
    rintro e w2 ⟨rfl, x1⟩
    have X2 := hide (X1.out.trans x1)
    replace B0 := hide (B0.out.ext x1)
    replace B1 := hide (B1.out.ext x1)
    have cB := B0.out.cell
    have cC := B1.out.cell
    clear x1
    go_wp2
    go_ret2
    rw [HF.out]
    exact ⟨rfl, X2.out⟩
set_option maxRecDepth 100000 in
set_option maxHeartbeats 1000000 in
theorem s.ItemFamily_c (w : World) (v v' : Value) (d : CoD) (x : ItD) (h : kC.rd w v d) (hok : kC.ok d) (hx : kIm.rd w v' x) (hok' : kIm.ok x) :
    Calls Try.prog 21 #[v, v'] w fun e w' => e = .returned (.tuple #[.int .i64 (famIt d x).1, .bool (famIt d x).2]) ∧ Ext w w' := by
  obtain ⟨Ac, nc, cc, Al, nl, cl, r, b, p, f, rfl⟩ := kC.shape h
  have HR := hide h
  have HV := hide hx
  obtain ⟨vs, rfl, hx2⟩ := hx
  obtain ⟨A1, c1, A2, c2, rfl, h1, h2⟩ := kdItem.open_ hx2
  rw [kdItem.val3] at HV ⊢
  have HX' := hide hx2
  have H1 := hide h1
  have H2 := hide h2
  clear h hx2 h1 h2
  obtain ⟨W0, hW0⟩ : ∃ W0, Hid (W0 = (w.alloc (.cells #[.slice Ac nc cc, .slice Al nl cl, .int .i64 r, .int .i64 b, .int .i64 p, .int .i64 f] 26)).alloc (.cells #[.slice A1 x.1.length c1, .slice A2 x.2.1.length c2, .bool x.2.2] 39)) := ⟨_, rfl⟩
  have X0 : Hid (Ext w W0) := by rw [hW0.out]; exact (Ext.alloc w _).trans (Ext.alloc _ _)
  have B0 : Hid (Blk W0 w.heap.size #[.slice Ac nc cc, .slice Al nl cl, .int .i64 r, .int .i64 b, .int .i64 p, .int .i64 f] 26) := by rw [hW0.out]; exact (Blk.new rfl _ _).alloc _
  have B1 : Hid (Blk W0 (w.heap.size + 1) #[.slice A1 x.1.length c1, .slice A2 x.2.1.length c2, .bool x.2.2] 39) := by rw [hW0.out]; exact Blk.new (by simp) _ _
  have GD := hide (fun (wq : World) (xq : Ext w wq) => s.bsGood_m (wq.alloc (.cells #[.slice A1 x.1.length c1, .slice A2 x.2.1.length c2, .bool x.2.2] 39)) _ d (some ⟨wq.heap.size, 0, none⟩) 1 (wq.heap.size + 1) [x] (kC.rd_ext HR.out (xq.trans (Ext.alloc _ _))) hok (LR.oneI (H1.out.ext xq (Nat.le_refl _)) (H2.out.ext xq (Nat.le_refl _)) xq.size _) (by simp) (by simp) (fun k y hk => by
    cases k with
    | succ k => simp at hk
    | zero => simp at hk; subst hk; exact hok'))
  rw [known_one, items_one] at GD
  obtain ⟨F, hF⟩ : ∃ F, Hid (famIt d x = F) := ⟨_, rfl⟩
  rw [hF.out]
  have UN : Hid (codeB d = true → itemB x = true → knownI d.1 x = true → ∀ (wq : World), Ext w wq → Calls Try.prog 50 #[.agg #[.slice Ac nc cc, .slice Al nl cl, .int .i64 r, .int .i64 b, .int .i64 p, .int .i64 f], .agg #[.slice A1 x.1.length c1, .slice A2 x.2.1.length c2, .bool x.2.2]] wq fun e w' => e = .returned (.int .i64 (familyF d x)) ∧ Ext wq w') := fun q1 q2 q3 wq xq => s.bsFamily_m wq _ d _ x (kC.rd_ext HR.out xq) hok (codeB_ok q1) (kdItem.rd_more (kdItem.rd_ext HX'.out xq (Nat.le_refl _)) xq.size) (itOk q2 q3)
  generalize x.1.length = m at *
  generalize x.2.1.length = m2 at *
  generalize x.2.2 = q at *
  have ZZ : Hid (W0.heap.size = w.heap.size + 1 + 1) := by show _ = _; rw [hW0.out]; simp
  go_enter Try.func21, Try.ntmps21
  go_wp2_with fail
  rw [← hW0.out]
  clear hW0
  have GQ := GD.out W0 X0.out
  rw [ZZ.out] at GQ
  (with_reducible refine (show Calls _ _ #[.agg #[.slice Ac nc cc, .slice Al nl cl, .int .i64 r, .int .i64 b, .int .i64 p, .int .i64 f], .slice (some ⟨w.heap.size + 1 + 1, 0, none⟩) 1 1] _ _ from GQ).mono ?_)
  rintro e w1 ⟨rfl, x1⟩
  replace x1 := (Ext.alloc W0 _).trans x1
  replace X0 := hide (X0.out.trans x1)
  replace B0 := hide (B0.out.ext x1)
  replace B1 := hide (B1.out.ext x1)
  clear x1
  have c0_ := B0.out.cell; have c1_ := B1.out.cell
  cases hg : (codeB d && itemB x && knownI d.1 x)
  · have HF : Hid (F = (0, false)) := by show _ = _; rw [← hF.out]; simp [famIt, hg]
    clear hg
    go_wp2
    go_ret2
    rw [HF.out]
    exact ⟨rfl, X0.out⟩
  · have HF : Hid (F = (familyF d x, true)) := by show _ = _; rw [← hF.out]; simp [famIt, hg]
    simp only [Bool.and_eq_true] at hg
    have UQ := hide (UN.out hg.1.1 hg.1.2 hg.2 w1 X0.out)
    clear hg
    go_wp2_with fail
    refine UQ.out.mono ?_
    rintro e w2 ⟨rfl, x1⟩
    replace X0 := hide (X0.out.trans x1)
    clear x1 c0_ c1_
    go_wp2
    go_ret2
    rw [HF.out]
    exact ⟨rfl, X0.out⟩
end Go.Proofs.Ytijgndfhfggipaa
