/- What the laws on bases call: an element's worth, the programme's base, the laws' own small functions. -/
import Derived.Test.YtcngiipdffjkfaaEO
namespace Go.Proofs.Ytcngiipdffjkfaa
open Go.RowKit Go.Sort
set_option linter.unusedVariables false

theorem i.isMark_k (m : Int) (w : World) : Calls Try.prog 51 #[.int .i64 m] w fun e w' => e = .returned (.bool (inB 0 3 m)) ∧ w = w' := by
  go_enter Try.func51, Try.ntmps51
  go_wp2_with (go_at_call 57; refine (i.within_any _ _ _ _).mono ?_; rintro e w' ⟨rfl, rfl⟩)
  go_ret
  exact ⟨rfl, rfl⟩

def elW (d : CoD) (nm : List UInt8) (mark : Int) : Int × Bool := if codeB d && decide (0 ≤ findF d.1 nm) && inB 0 3 mark then (worthN d nm mark, true) else (0, false)
def findL (d : CoD) (nm : List UInt8) : Int × Bool := if codeB d && decide (0 ≤ findF d.1 nm) then (findF d.1 nm, true) else (0, false)
set_option maxRecDepth 100000 in
set_option maxHeartbeats 1000000 in
theorem i.FindElement_c (w : World) (v : Value) (d : CoD) (nm : List UInt8) (h : kC.rd w v d) (hok : kC.ok d) :
    Calls Try.prog 50 #[v, .string (bs nm)] w fun e w' => e = .returned (.tuple #[.int .i64 (findL d nm).1, .bool (findL d nm).2]) ∧ Ext w w' := by
  obtain ⟨Ac, nc, cc, Al, nl, cl, r, b, p, f, rfl⟩ := kC.shape h
  have IC := hide (fun (wq : World) (xq : Ext w wq) => i.IsCode_m wq _ d (kC.rd_ext h xq) hok)
  have FE := hide (fun (wq : World) (xq : Ext w wq) => i.findElement_m wq _ d nm (kC.rd_ext h xq) hok)
  obtain ⟨F, hF⟩ : ∃ F, Hid (findL d nm = F) := ⟨_, rfl⟩
  rw [hF.out]
  clear h
  obtain ⟨z, hz⟩ : ∃ z, Hid (findF d.1 nm = z) := ⟨_, rfl⟩
  rw [hz.out] at FE
  obtain ⟨W0, hW0⟩ : ∃ W0, Hid (W0 = w.alloc (.cells #[.slice Ac nc cc, .slice Al nl cl, .int .i64 r, .int .i64 b, .int .i64 p, .int .i64 f] 27)) := ⟨_, rfl⟩
  have X0 : Hid (Ext w W0) := by rw [hW0.out]; exact Ext.alloc w _
  have B0 : Hid (Blk W0 w.heap.size #[.slice Ac nc cc, .slice Al nl cl, .int .i64 r, .int .i64 b, .int .i64 p, .int .i64 f] 27) := by rw [hW0.out]; exact Blk.new rfl _ _
  go_enter Try.func50, Try.ntmps50
  go_wp2_with fail
  rw [← hW0.out]
  clear hW0
  refine (IC.out W0 X0.out).mono ?_
  rintro e w1 ⟨rfl, x1⟩
  have X1 := hide (X0.out.trans x1)
  have B1 := hide (B0.out.ext x1)
  have cB := B1.out.cell
  clear x1 IC X0 B0
  cases h1 : codeB d
  · have HF : Hid (F = (0, false)) := by show _ = _; rw [← hF.out]; simp [findL, h1]
    clear h1
    go_wp2
    go_ret2
    rw [HF.out]
    exact ⟨rfl, X1.out⟩
  · go_wp2_with fail
    refine (FE.out w1 X1.out).mono ?_
    rintro e w2 ⟨rfl, x2⟩
    have X2 := hide (X1.out.trans x2)
    have B2 := hide (B1.out.ext x2)
    clear cB
    have cB := B2.out.cell
    clear x2 B1 X1
    by_cases hlt : z < 0
    · have HF : Hid (F = (0, false)) := by show _ = _; rw [← hF.out]; simp [findL, h1, hz.out]; omega
      clear h1
      go_wp2
      go_ret2
      rw [HF.out]
      exact ⟨rfl, X2.out⟩
    · have HF : Hid (F = (z, true)) := by
        have h0 : 0 ≤ z := by omega
        show _ = _; rw [← hF.out]; simp [findL, h1, hz.out, h0]
      clear h1
      go_wp2_with fail
      refine (FE.out w2 X2.out).mono ?_
      rintro e w3 ⟨rfl, x3⟩
      have X3 := hide (X2.out.trans x3)
      clear x3 cB
      go_wp2
      go_ret2
      rw [HF.out]
      exact ⟨rfl, X3.out⟩
set_option maxRecDepth 100000 in
set_option maxHeartbeats 1000000 in
theorem i.ElementWorth_c (w : World) (v : Value) (d : CoD) (nm : List UInt8) (mark : Int) (h : kC.rd w v d) (hok : kC.ok d) :
    Calls Try.prog 22 #[v, .string (bs nm), .int .i64 mark] w fun e w' => e = .returned (.tuple #[.int .i64 (elW d nm mark).1, .bool (elW d nm mark).2]) ∧ Ext w w' := by
  have HR := hide h
  obtain ⟨Ac, cc, Al, cl, rfl, hl, -⟩ := kC.lr h
  have HL := hide hl
  have FE := hide (fun (wq : World) (xq : Ext w wq) => i.FindElement_c wq _ d nm (kC.rd_ext h xq) hok)
  have a1 := hl.1; have a2 := hl.2.1
  obtain ⟨F, hF⟩ : ∃ F, Hid (elW d nm mark = F) := ⟨_, rfl⟩
  rw [hF.out]
  clear h hl
  obtain ⟨n, hn⟩ : ∃ n, Hid (d.1.length = n) := ⟨_, rfl⟩
  obtain ⟨n2, hn2⟩ : ∃ n2, Hid (d.2.1.length = n2) := ⟨_, rfl⟩
  obtain ⟨r, hr⟩ : ∃ r, Hid (d.2.2.1 = r) := ⟨_, rfl⟩
  obtain ⟨b, hb⟩ : ∃ b, Hid (d.2.2.2.1 = b) := ⟨_, rfl⟩
  obtain ⟨p, hp⟩ : ∃ p, Hid (d.2.2.2.2.1 = p) := ⟨_, rfl⟩
  obtain ⟨f, hf⟩ : ∃ f, Hid (d.2.2.2.2.2 = f) := ⟨_, rfl⟩
  rw [hn.out, hn2.out, hr.out, hb.out, hp.out, hf.out] at FE HR ⊢
  rw [hn.out] at a1
  obtain ⟨W0, hW0⟩ : ∃ W0, Hid (W0 = w.alloc (.cells #[.slice Ac n cc, .slice Al n2 cl, .int .i64 r, .int .i64 b, .int .i64 p, .int .i64 f] 27)) := ⟨_, rfl⟩
  have X0 : Hid (Ext w W0) := by rw [hW0.out]; exact Ext.alloc w _
  have B0 : Hid (Blk W0 w.heap.size #[.slice Ac n cc, .slice Al n2 cl, .int .i64 r, .int .i64 b, .int .i64 p, .int .i64 f] 27) := by rw [hW0.out]; exact Blk.new rfl _ _
  go_enter Try.func22, Try.ntmps22
  go_wp2_with fail
  rw [← hW0.out]
  clear hW0
  refine (FE.out W0 X0.out).mono ?_
  rintro e w1 ⟨rfl, x1⟩
  have X1 := hide (X0.out.trans x1)
  have B1 := hide (B0.out.ext x1)
  have cB := B1.out.cell
  clear x1 FE X0 B0
  cases h1 : (codeB d && decide (0 ≤ findF d.1 nm))
  · have HF : Hid (F = (0, false)) := by show _ = _; rw [← hF.out]; simp only [elW, h1]; rfl
    have e1 : findL d nm = (0, false) := by simp only [findL, h1]; rfl
    rw [e1]
    clear h1 e1
    go_wp2
    go_ret2
    rw [HF.out]
    exact ⟨rfl, X1.out⟩
  · have e1 : findL d nm = (findF d.1 nm, true) := by simp only [findL, h1]; rfl
    rw [e1]
    clear e1
    cases h2 : inB 0 3 mark
    · have HF : Hid (F = (0, false)) := by show _ = _; rw [← hF.out]; simp only [elW, h1, h2]; rfl
      have IM := hide (i.isMark_k mark)
      rw [h2] at IM
      clear h1 h2
      go_wp2_with (go_at_call 51; refine (IM.out _).mono ?_; rintro e w' ⟨rfl, rfl⟩)
      go_ret2
      rw [HF.out]
      exact ⟨rfl, X1.out⟩
    · have HF : Hid (F = (worthN d nm mark, true)) := by show _ = _; rw [← hF.out]; simp only [elW, h1, h2]; rfl
      have IM := hide (i.isMark_k mark)
      rw [h2] at IM
      simp only [Bool.and_eq_true, decide_eq_true_eq] at h1
      obtain ⟨k, x, hfk, hxk, -⟩ := findF_some h1.2
      have HC := codeB_ok h1.1
      have ew : Hid (worthN d nm mark = worthE d.2.2.2.2.1 x mark) := by
        show _ = _
        unfold worthN
        rw [hfk, Int.toNat_natCast, getD_some hxk]
      obtain ⟨bb, off, hA, hbb, u0, u1, u2, u3, xl⟩ := (HL.out.ext X1.out (Nat.le_refl _)).element k x hxk
      have kl : k < n := by rw [← hn.out]; exact (List.getElem?_eq_some_iff.1 hxk).1
      have klz : (k : Int) < (n : Int) := by omega
      have WO := hide (fun (wq : World) (xq : Ext w wq) => i.worthOf_m wq _ d x mark (kC.rd_ext HR.out xq) HC (HC.els _ _ hxk))
      rw [hfk]
      subst hA
      rw [ew.out] at HF
      clear h1 h2 hxk HC hfk ew HL
      generalize worthE d.2.2.2.2.1 x mark = R at *
      go_wp2_with (go_at_call 51; refine (IM.out _).mono ?_; rintro e w' ⟨rfl, rfl⟩)
      go_region_law (go_simp; go_at_call 52; refine (WO.out _ (X1.out.trans (Ext.drew _))).mono ?_; rintro e w3 ⟨rfl, x3⟩; have X3 := hide ((X1.out.trans (Ext.drew _)).trans x3); clear x3)
      all_goals
        go_wp2
        go_ret2
        rw [HF.out]
        exact ⟨rfl, X3.out⟩
end Go.Proofs.Ytcngiipdffjkfaa
