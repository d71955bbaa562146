/- The walk of FnJudges: drawn marks; set, swapped, dropped, set back. (Printed by vj.py.) -/
import Derived.Test.YtifdpmpconjhmaaDG
import Derived.Test.YtifdpmpconjhmaaDH
import Derived.Test.YtifdpmpconjhmaaJA
import Derived.Test.YtifdpmpconjhmaaMO
import Derived.Test.YtifdpmpconjhmaaMS
import Derived.Test.YtifdpmpconjhmaaMT
import Derived.Test.YtifdpmpconjhmaaMV
import Derived.Test.YtifdpmpconjhmaaMW
import Derived.Deep.DeepCutAuto
namespace Go.Proofs.Ytifdpmpconjhmaa
open Go.RowKit Go.Sort
set_option linter.unusedVariables false

/-- One number of marks that are read: where it lies. -/
theorem LR.spot {w : World} {B : Nat} {A : Option Addr} {c : Nat} {xs : List (List Int)} (h : LR kdL w B A c xs) (i : Nat) (x : List Int) (hx : xs[i]? = some x) (j : Nat) (hj : j < x.length) :
    ∃ b off bx ox cx, A = some ⟨b, off, none⟩ ∧ b < B ∧ bx < B ∧ w.cell? ⟨b, off + i, none⟩ = some (.slice (some ⟨bx, ox, none⟩) x.length cx) ∧ x.length ≤ cx ∧ cx ≤ 9223372036854775807 ∧ w.cell? ⟨bx, ox + j, none⟩ = some (.int .i64 (x.getD j 0)) := by
  obtain ⟨b, off, cs, e, hb, ⟨Ax, cx, rfl, hr⟩, hc⟩ := h.2.2 i x hx
  have h0 := hc 0 _ rfl
  rw [show i * kdL.size + 0 = i from by show i * 1 + 0 = i; omega] at h0
  obtain ⟨bx, ox, rfl, hbx, hcx⟩ := hr.sl.cells (by omega)
  exact ⟨b, off, bx, ox, cx, e, hb, hbx, h0, hr.1, hr.2.1, hcx j hj⟩

/-- The new marks' box: made behind the call, or ahead of it. -/
theorem box_late {W0 wA : World} {lo hi : Nat} {A2 A3 : Option Addr} {n2 c2 n3 c3 : Nat} {d : MD} (xa : Ext W0 wA) (fr : kM.fr wA lo hi (.agg #[.slice A2 n2 c2, .slice A3 n3 c3]) d) :
    ∃ WB gX, Hid (WB = wA.alloc (.cells #[.slice A2 n2 c2, .slice A3 n3 c3] 25)) ∧ Hid (gX = wA.heap.size) ∧ Hid (Ext W0 WB) ∧ Hid (Blk WB gX #[.slice A2 n2 c2, .slice A3 n3 c3] 25) ∧ Hid (kM.rd WB (.agg #[.slice A2 n2 c2, .slice A3 n3 c3]) d) :=
  ⟨_, _, rfl, rfl, xa.trans (Ext.alloc _ _), Blk.new rfl _ _, kM.rd_ext (kM.fr_rd fr) (Ext.alloc _ _)⟩
theorem box_early {W0 wA : World} {hi : Nat} {A2 A3 : Option Addr} {n2 c2 n3 c3 : Nat} {d : MD} (xa : Ext (W0.alloc (.cells #[.slice none 0 0, .slice none 0 0] 25)).drew wA) (fr : kM.fr wA (W0.alloc (.cells #[.slice none 0 0, .slice none 0 0] 25)).drew.heap.size hi (.agg #[.slice A2 n2 c2, .slice A3 n3 c3]) d) :
    ∃ WB gX, Hid (WB = (wA.setCell ⟨W0.heap.size, 0, none⟩ (.slice A2 n2 c2)).setCell ⟨W0.heap.size, 1, none⟩ (.slice A3 n3 c3)) ∧ Hid (gX = W0.heap.size) ∧ Hid (Ext W0 WB) ∧ Hid (Blk WB gX #[.slice A2 n2 c2, .slice A3 n3 c3] 25) ∧ Hid (kM.rd WB (.agg #[.slice A2 n2 c2, .slice A3 n3 c3]) d) := by
  have hz : (W0.alloc (.cells #[.slice none 0 0, .slice none 0 0] 25)).drew.heap.size = W0.heap.size + 1 := by simp [World.drew]
  have hl : W0.heap.size < (W0.alloc (.cells #[.slice none 0 0, .slice none 0 0] 25)).drew.heap.size := by rw [hz]; omega
  have b0 : Blk wA W0.heap.size #[.slice none 0 0, .slice none 0 0] 25 := ((Blk.new (w := W0) rfl #[.slice none 0 0, .slice none 0 0] 25).ext (Ext.drew _)).ext xa
  refine ⟨_, _, rfl, rfl, Below.setCell (Below.setCell (((Ext.alloc W0 _).trans (Ext.drew _)).trans xa) (by simp) _) (by simp) _, ?_, kM.fr_rd (kM.fr_far (kM.fr_far fr _ hl _) _ hl _)⟩
  have := (b0.set 0 (.slice A2 n2 c2)).set 1 (.slice A3 n3 c3)
  show Blk _ _ _ _
  simpa using this
theorem early_cell {W0 wA : World} (xa : Ext (W0.alloc (.cells #[.slice none 0 0, .slice none 0 0] 25)).drew wA) : (∀ i, wA.cell? ⟨W0.heap.size, i, none⟩ = #[Value.slice none 0 0, .slice none 0 0][i]?) ∧ ∀ i, wA.frozen? ⟨W0.heap.size, i, none⟩ = false := by
  have b0 : Blk wA W0.heap.size #[.slice none 0 0, .slice none 0 0] 25 := ((Blk.new (w := W0) rfl #[.slice none 0 0, .slice none 0 0] 25).ext (Ext.drew _)).ext xa
  exact ⟨b0.cell, b0.free⟩
theorem kM.lr1 {w : World} {A : Option Addr} {n c : Nat} {A' : Option Addr} {n' c' : Nat} {d : MD} (h : kM.rd w (.agg #[.slice A n c, .slice A' n' c']) d) : n = d.1.length ∧ LR kdL w w.heap.size A c d.1 ∧ n' = d.2.length ∧ LR kdL w w.heap.size A' c' d.2 := by
  obtain ⟨B, e, B', e', hv, h1, h2⟩ := kM.lr h
  simp only [Value.agg.injEq, Array.mk.injEq, List.cons.injEq, Value.slice.injEq, and_true] at hv
  obtain ⟨⟨rfl, rfl, rfl⟩, rfl, rfl, rfl⟩ := hv
  exact ⟨rfl, h1, rfl, h2⟩
theorem l.qInts_kI (w : World) (v v' : Value) (zs : List Int) (h : kI.rd w v zs) (h' : kI.rd w v' zs) (hok : kI.ok zs) :
    Calls Try.prog 20 #[v, v'] w fun e w' => e = .returned (.bool true) ∧ Ext w w' := by
  obtain ⟨A, c, rfl, h, _⟩ := h
  obtain ⟨A', c', rfl, h', _⟩ := h'
  exact l.qInts_same _ _ _ _ _ _ _ zs _ h h' hok

set_option maxRecDepth 100000 in
set_option maxHeartbeats 20000000 in
theorem FnJudges_walk (a0 : Option Addr) (n0 c0 : Nat) (a1 : Option Addr) (n1 c1 : Nat) (w : World) (h0 : ArgB w a0 n0 c0) (h1 : ArgB w a1 n1 c1) :
    Calls Try.prog 3 #[.slice a0 n0 c0, .slice a1 n1 c1] w fun e w' => e = .returned (.bool true) ∧ Ext w w' := by
  have p0 := h0.cap; have p0' := h0.capm; have p1 := h1.cap; have p1' := h1.capm
  have H0 := hide h0
  have H1 := hide h1
  clear h0 h1
  obtain ⟨sm, hsm⟩ : ∃ sm, Hid (IntKind.i64.wrap ((n0 : Int) + n1) = sm) := ⟨_, rfl⟩
  have X := hide (Ext.refl w)
  go_enter Try.func3, Try.ntmps3
  go_wp2_with fail
  · go_ret
    exact ⟨rfl, X.out⟩
  clear hsm
  refine (s.DrawSwapJudges_m w _ _ _ H0.out).mono ?_
  rintro e w1 ⟨v, d5, y50, y51, rfl, hr, ok5, iy50, iy51, x1⟩
  replace X := hide (X.out.trans x1)
  replace H0 := hide (H0.out.ext x1)
  replace H1 := hide (H1.out.ext x1)
  clear x1
  have R5 := hide hr
  have K5 := hide ok5
  clear hr ok5
  have Iy50 := hide iy50; clear iy50
  have Iy51 := hide iy51; clear iy51
  obtain ⟨A5, n5, c5, A5', n5', c5', rfl⟩ := kM.shape R5.out
  obtain ⟨W2, hW⟩ : ∃ W, Hid (W = w1.alloc (.cells #[.slice A5 n5 c5, .slice A5' n5' c5'] 25)) := ⟨_, rfl⟩
  have xa : Ext w1 W2 := by rw [hW.out]; exact Ext.alloc _ _
  have P5 : Hid (Blk W2 w1.heap.size #[.slice A5 n5 c5, .slice A5' n5' c5'] 25) := by rw [hW.out]; exact Blk.new rfl _ _
  replace X := hide (X.out.trans xa)
  replace R5 := hide (kM.rd_ext R5.out xa)
  replace H0 := hide (H0.out.ext xa)
  replace H1 := hide (H1.out.ext xa)
  clear xa
  obtain ⟨g5, hg5⟩ : ∃ g, Hid (g = w1.heap.size) := ⟨_, rfl⟩
  rw [← hg5.out] at P5
  go_wp2_with fail
  rw [← hW.out, ← hg5.out]
  clear hW hg5
  obtain ⟨o1, ho1⟩ : ∃ o, Hid ((swapJudgesF d5 y50 y51).2 = o) := ⟨_, rfl⟩
  refine (i.SwapJudges_law W2 (.agg #[.slice A5 n5 c5, .slice A5' n5' c5']) d5 y50 y51 R5.out K5.out Iy50.out Iy51.out).mono ?_
  rintro e w3 ⟨v, he, hr, hk, x1⟩
  replace X := hide (X.out.trans x1)
  replace P5 := hide (P5.out.ext x1)
  replace R5 := hide (kM.rd_ext R5.out x1)
  replace H0 := hide (H0.out.ext x1)
  replace H1 := hide (H1.out.ext x1)
  clear x1
  have R8 := hide (kM.fr_rd hr)
  have K8 := hide hk
  clear hr hk
  obtain ⟨A8, n8, c8, A8', n8', c8', rfl⟩ := kM.shape R8.out
  rw [ho1.out] at he; subst he
  obtain ⟨W4, hW⟩ : ∃ W, Hid (W = w3.alloc (.cells #[.slice A8 n8 c8, .slice A8' n8' c8'] 25)) := ⟨_, rfl⟩
  have q5 := (P5.out.alloc (.cells #[.slice A8 n8 c8, .slice A8' n8' c8'] 25)).cell
  have xa : Ext w3 W4 := by rw [hW.out]; exact Ext.alloc _ _
  have P8 : Hid (Blk W4 w3.heap.size #[.slice A8 n8 c8, .slice A8' n8' c8'] 25) := by rw [hW.out]; exact Blk.new rfl _ _
  replace X := hide (X.out.trans xa)
  replace P5 := hide (P5.out.ext xa)
  replace R5 := hide (kM.rd_ext R5.out xa)
  replace R8 := hide (kM.rd_ext R8.out xa)
  replace H0 := hide (H0.out.ext xa)
  replace H1 := hide (H1.out.ext xa)
  clear xa
  obtain ⟨g8, hg8⟩ : ∃ g, Hid (g = w3.heap.size) := ⟨_, rfl⟩
  rw [← hg8.out] at P8
  go_wp2_with fail
  rw [← hW.out, ← hg8.out]
  clear hW hg8
  clear q5
  refine (s.SwapJudges_law W4 (.agg #[.slice A5 n5 c5, .slice A5' n5' c5']) d5 y50 y51 R5.out K5.out Iy50.out Iy51.out).mono ?_
  rintro e w5 ⟨v, he, hr, hk, x1⟩
  replace X := hide (X.out.trans x1)
  replace P5 := hide (P5.out.ext x1)
  replace P8 := hide (P8.out.ext x1)
  replace R5 := hide (kM.rd_ext R5.out x1)
  replace R8 := hide (kM.rd_ext R8.out x1)
  replace H0 := hide (H0.out.ext x1)
  replace H1 := hide (H1.out.ext x1)
  clear x1
  have R10 := hide (kM.fr_rd hr)
  have K10 := hide hk
  clear hr hk
  obtain ⟨A10, n10, c10, A10', n10', c10', rfl⟩ := kM.shape R10.out
  rw [ho1.out] at he; subst he
  obtain ⟨W6, hW⟩ : ∃ W, Hid (W = w5.alloc (.cells #[.slice A10 n10 c10, .slice A10' n10' c10'] 25)) := ⟨_, rfl⟩
  have xa : Ext w5 W6 := by rw [hW.out]; exact Ext.alloc _ _
  have P10 : Hid (Blk W6 w5.heap.size #[.slice A10 n10 c10, .slice A10' n10' c10'] 25) := by rw [hW.out]; exact Blk.new rfl _ _
  replace X := hide (X.out.trans xa)
  replace P5 := hide (P5.out.ext xa)
  replace P8 := hide (P8.out.ext xa)
  replace R5 := hide (kM.rd_ext R5.out xa)
  replace R8 := hide (kM.rd_ext R8.out xa)
  replace R10 := hide (kM.rd_ext R10.out xa)
  replace H0 := hide (H0.out.ext xa)
  replace H1 := hide (H1.out.ext xa)
  clear xa
  obtain ⟨g10, hg10⟩ : ∃ g, Hid (g = w5.heap.size) := ⟨_, rfl⟩
  rw [← hg10.out] at P10
  go_wp2_with fail
  rw [← hW.out, ← hg10.out]
  clear hW hg10
  as_aux_lemma =>
    refine (s.DrawSetGrade_m W6 _ _ _ H1.out).mono ?_
    rintro e w7 ⟨v, d12, y120, y121, y122, rfl, hr, ok12, iy120, iy121, iy122, x1⟩
    replace X := hide (X.out.trans x1)
    replace P5 := hide (P5.out.ext x1)
    replace P8 := hide (P8.out.ext x1)
    replace P10 := hide (P10.out.ext x1)
    replace R5 := hide (kM.rd_ext R5.out x1)
    replace R8 := hide (kM.rd_ext R8.out x1)
    replace R10 := hide (kM.rd_ext R10.out x1)
    replace H0 := hide (H0.out.ext x1)
    replace H1 := hide (H1.out.ext x1)
    clear x1
    have R12 := hide hr
    have K12 := hide ok12
    clear hr ok12
    have Iy120 := hide iy120; clear iy120
    have Iy121 := hide iy121; clear iy121
    have Iy122 := hide iy122; clear iy122
    obtain ⟨A12, n12, c12, A12', n12', c12', rfl⟩ := kM.shape R12.out
    obtain ⟨W8, hW⟩ : ∃ W, Hid (W = w7.alloc (.cells #[.slice A12 n12 c12, .slice A12' n12' c12'] 25)) := ⟨_, rfl⟩
    have xa : Ext w7 W8 := by rw [hW.out]; exact Ext.alloc _ _
    have P12 : Hid (Blk W8 w7.heap.size #[.slice A12 n12 c12, .slice A12' n12' c12'] 25) := by rw [hW.out]; exact Blk.new rfl _ _
    replace X := hide (X.out.trans xa)
    replace P5 := hide (P5.out.ext xa)
    replace P8 := hide (P8.out.ext xa)
    replace P10 := hide (P10.out.ext xa)
    replace R5 := hide (kM.rd_ext R5.out xa)
    replace R8 := hide (kM.rd_ext R8.out xa)
    replace R10 := hide (kM.rd_ext R10.out xa)
    replace R12 := hide (kM.rd_ext R12.out xa)
    replace H0 := hide (H0.out.ext xa)
    replace H1 := hide (H1.out.ext xa)
    clear xa
    obtain ⟨g12, hg12⟩ : ∃ g, Hid (g = w7.heap.size) := ⟨_, rfl⟩
    rw [← hg12.out] at P12
    go_wp2_with fail
    rw [← hW.out, ← hg12.out]
    clear hW hg12
    obtain ⟨o2, ho2⟩ : ∃ o, Hid ((setGradeF d12 y120 y121 y122).2 = o) := ⟨_, rfl⟩
    refine (i.SetGrade_law W8 (.agg #[.slice A12 n12 c12, .slice A12' n12' c12']) d12 y120 y121 y122 R12.out K12.out Iy120.out Iy121.out Iy122.out).mono ?_
    rintro e w9 ⟨v, he, hr, hk, x1⟩
    replace X := hide (X.out.trans x1)
    replace P5 := hide (P5.out.ext x1)
    replace P8 := hide (P8.out.ext x1)
    replace P10 := hide (P10.out.ext x1)
    replace P12 := hide (P12.out.ext x1)
    replace R5 := hide (kM.rd_ext R5.out x1)
    replace R8 := hide (kM.rd_ext R8.out x1)
    replace R10 := hide (kM.rd_ext R10.out x1)
    replace R12 := hide (kM.rd_ext R12.out x1)
    replace H0 := hide (H0.out.ext x1)
    replace H1 := hide (H1.out.ext x1)
    clear x1
    have R16 := hide (kM.fr_rd hr)
    have K16 := hide hk
    clear hr hk
    obtain ⟨A16, n16, c16, A16', n16', c16', rfl⟩ := kM.shape R16.out
    rw [ho2.out] at he; subst he
    obtain ⟨W10, hW⟩ : ∃ W, Hid (W = w9.alloc (.cells #[.slice A16 n16 c16, .slice A16' n16' c16'] 25)) := ⟨_, rfl⟩
    have q12 := (P12.out.alloc (.cells #[.slice A16 n16 c16, .slice A16' n16' c16'] 25)).cell
    have xa : Ext w9 W10 := by rw [hW.out]; exact Ext.alloc _ _
    have P16 : Hid (Blk W10 w9.heap.size #[.slice A16 n16 c16, .slice A16' n16' c16'] 25) := by rw [hW.out]; exact Blk.new rfl _ _
    replace X := hide (X.out.trans xa)
    replace P5 := hide (P5.out.ext xa)
    replace P8 := hide (P8.out.ext xa)
    replace P10 := hide (P10.out.ext xa)
    replace P12 := hide (P12.out.ext xa)
    replace R5 := hide (kM.rd_ext R5.out xa)
    replace R8 := hide (kM.rd_ext R8.out xa)
    replace R10 := hide (kM.rd_ext R10.out xa)
    replace R12 := hide (kM.rd_ext R12.out xa)
    replace R16 := hide (kM.rd_ext R16.out xa)
    replace H0 := hide (H0.out.ext xa)
    replace H1 := hide (H1.out.ext xa)
    clear xa
    obtain ⟨g16, hg16⟩ : ∃ g, Hid (g = w9.heap.size) := ⟨_, rfl⟩
    rw [← hg16.out] at P16
    go_wp2_with fail
    rw [← hW.out, ← hg16.out]
    clear hW hg16
    clear q12
    refine (s.SetGrade_law W10 (.agg #[.slice A12 n12 c12, .slice A12' n12' c12']) d12 y120 y121 y122 R12.out K12.out Iy120.out Iy121.out Iy122.out).mono ?_
    rintro e w11 ⟨v, he, hr, hk, x1⟩
    replace X := hide (X.out.trans x1)
    replace P5 := hide (P5.out.ext x1)
    replace P8 := hide (P8.out.ext x1)
    replace P10 := hide (P10.out.ext x1)
    replace P12 := hide (P12.out.ext x1)
    replace P16 := hide (P16.out.ext x1)
    replace R5 := hide (kM.rd_ext R5.out x1)
    replace R8 := hide (kM.rd_ext R8.out x1)
    replace R10 := hide (kM.rd_ext R10.out x1)
    replace R12 := hide (kM.rd_ext R12.out x1)
    replace R16 := hide (kM.rd_ext R16.out x1)
    replace H0 := hide (H0.out.ext x1)
    replace H1 := hide (H1.out.ext x1)
    clear x1
    have R18 := hide (kM.fr_rd hr)
    have K18 := hide hk
    clear hr hk
    obtain ⟨A18, n18, c18, A18', n18', c18', rfl⟩ := kM.shape R18.out
    rw [ho2.out] at he; subst he
    obtain ⟨W12, hW⟩ : ∃ W, Hid (W = w11.alloc (.cells #[.slice A18 n18 c18, .slice A18' n18' c18'] 25)) := ⟨_, rfl⟩
    have xa : Ext w11 W12 := by rw [hW.out]; exact Ext.alloc _ _
    have P18 : Hid (Blk W12 w11.heap.size #[.slice A18 n18 c18, .slice A18' n18' c18'] 25) := by rw [hW.out]; exact Blk.new rfl _ _
    replace X := hide (X.out.trans xa)
    replace P5 := hide (P5.out.ext xa)
    replace P8 := hide (P8.out.ext xa)
    replace P10 := hide (P10.out.ext xa)
    replace P12 := hide (P12.out.ext xa)
    replace P16 := hide (P16.out.ext xa)
    replace R5 := hide (kM.rd_ext R5.out xa)
    replace R8 := hide (kM.rd_ext R8.out xa)
    replace R10 := hide (kM.rd_ext R10.out xa)
    replace R12 := hide (kM.rd_ext R12.out xa)
    replace R16 := hide (kM.rd_ext R16.out xa)
    replace R18 := hide (kM.rd_ext R18.out xa)
    replace H0 := hide (H0.out.ext xa)
    replace H1 := hide (H1.out.ext xa)
    clear xa
    obtain ⟨g18, hg18⟩ : ∃ g, Hid (g = w11.heap.size) := ⟨_, rfl⟩
    rw [← hg18.out] at P18
    go_wp2_with fail
    rw [← hW.out, ← hg18.out]
    clear hW hg18
    as_aux_lemma =>
      refine (s.DrawSetComponent_m W12 _ _ _ H1.out).mono ?_
      rintro e w13 ⟨v, d20, y200, y201, y202, rfl, hr, ok20, iy200, iy201, iy202, x1⟩
      replace X := hide (X.out.trans x1)
      replace P5 := hide (P5.out.ext x1)
      replace P8 := hide (P8.out.ext x1)
      replace P10 := hide (P10.out.ext x1)
      replace P12 := hide (P12.out.ext x1)
      replace P16 := hide (P16.out.ext x1)
      replace P18 := hide (P18.out.ext x1)
      replace R5 := hide (kM.rd_ext R5.out x1)
      replace R8 := hide (kM.rd_ext R8.out x1)
      replace R10 := hide (kM.rd_ext R10.out x1)
      replace R12 := hide (kM.rd_ext R12.out x1)
      replace R16 := hide (kM.rd_ext R16.out x1)
      replace R18 := hide (kM.rd_ext R18.out x1)
      replace H0 := hide (H0.out.ext x1)
      replace H1 := hide (H1.out.ext x1)
      clear x1
      have R20 := hide hr
      have K20 := hide ok20
      clear hr ok20
      have Iy200 := hide iy200; clear iy200
      have Iy201 := hide iy201; clear iy201
      have Iy202 := hide iy202; clear iy202
      obtain ⟨A20, n20, c20, A20', n20', c20', rfl⟩ := kM.shape R20.out
      obtain ⟨W14, hW⟩ : ∃ W, Hid (W = w13.alloc (.cells #[.slice A20 n20 c20, .slice A20' n20' c20'] 25)) := ⟨_, rfl⟩
      have xa : Ext w13 W14 := by rw [hW.out]; exact Ext.alloc _ _
      have P20 : Hid (Blk W14 w13.heap.size #[.slice A20 n20 c20, .slice A20' n20' c20'] 25) := by rw [hW.out]; exact Blk.new rfl _ _
      replace X := hide (X.out.trans xa)
      replace P5 := hide (P5.out.ext xa)
      replace P8 := hide (P8.out.ext xa)
      replace P10 := hide (P10.out.ext xa)
      replace P12 := hide (P12.out.ext xa)
      replace P16 := hide (P16.out.ext xa)
      replace P18 := hide (P18.out.ext xa)
      replace R5 := hide (kM.rd_ext R5.out xa)
      replace R8 := hide (kM.rd_ext R8.out xa)
      replace R10 := hide (kM.rd_ext R10.out xa)
      replace R12 := hide (kM.rd_ext R12.out xa)
      replace R16 := hide (kM.rd_ext R16.out xa)
      replace R18 := hide (kM.rd_ext R18.out xa)
      replace R20 := hide (kM.rd_ext R20.out xa)
      replace H0 := hide (H0.out.ext xa)
      replace H1 := hide (H1.out.ext xa)
      clear xa
      obtain ⟨g20, hg20⟩ : ∃ g, Hid (g = w13.heap.size) := ⟨_, rfl⟩
      rw [← hg20.out] at P20
      go_wp2_with fail
      rw [← hW.out, ← hg20.out]
      clear hW hg20
      obtain ⟨o3, ho3⟩ : ∃ o, Hid ((setComponentF d20 y200 y201 y202).2 = o) := ⟨_, rfl⟩
      refine (i.SetComponent_law W14 (.agg #[.slice A20 n20 c20, .slice A20' n20' c20']) d20 y200 y201 y202 R20.out K20.out Iy200.out Iy201.out Iy202.out).mono ?_
      rintro e w15 ⟨v, he, hr, hk, x1⟩
      replace X := hide (X.out.trans x1)
      replace P5 := hide (P5.out.ext x1)
      replace P8 := hide (P8.out.ext x1)
      replace P10 := hide (P10.out.ext x1)
      replace P12 := hide (P12.out.ext x1)
      replace P16 := hide (P16.out.ext x1)
      replace P18 := hide (P18.out.ext x1)
      replace P20 := hide (P20.out.ext x1)
      replace R5 := hide (kM.rd_ext R5.out x1)
      replace R8 := hide (kM.rd_ext R8.out x1)
      replace R10 := hide (kM.rd_ext R10.out x1)
      replace R12 := hide (kM.rd_ext R12.out x1)
      replace R16 := hide (kM.rd_ext R16.out x1)
      replace R18 := hide (kM.rd_ext R18.out x1)
      replace R20 := hide (kM.rd_ext R20.out x1)
      replace H0 := hide (H0.out.ext x1)
      replace H1 := hide (H1.out.ext x1)
      clear x1
      have R24 := hide (kM.fr_rd hr)
      have K24 := hide hk
      clear hr hk
      obtain ⟨A24, n24, c24, A24', n24', c24', rfl⟩ := kM.shape R24.out
      rw [ho3.out] at he; subst he
      obtain ⟨W16, hW⟩ : ∃ W, Hid (W = w15.alloc (.cells #[.slice A24 n24 c24, .slice A24' n24' c24'] 25)) := ⟨_, rfl⟩
      have q20 := (P20.out.alloc (.cells #[.slice A24 n24 c24, .slice A24' n24' c24'] 25)).cell
      have xa : Ext w15 W16 := by rw [hW.out]; exact Ext.alloc _ _
      have P24 : Hid (Blk W16 w15.heap.size #[.slice A24 n24 c24, .slice A24' n24' c24'] 25) := by rw [hW.out]; exact Blk.new rfl _ _
      replace X := hide (X.out.trans xa)
      replace P5 := hide (P5.out.ext xa)
      replace P8 := hide (P8.out.ext xa)
      replace P10 := hide (P10.out.ext xa)
      replace P12 := hide (P12.out.ext xa)
      replace P16 := hide (P16.out.ext xa)
      replace P18 := hide (P18.out.ext xa)
      replace P20 := hide (P20.out.ext xa)
      replace R5 := hide (kM.rd_ext R5.out xa)
      replace R8 := hide (kM.rd_ext R8.out xa)
      replace R10 := hide (kM.rd_ext R10.out xa)
      replace R12 := hide (kM.rd_ext R12.out xa)
      replace R16 := hide (kM.rd_ext R16.out xa)
      replace R18 := hide (kM.rd_ext R18.out xa)
      replace R20 := hide (kM.rd_ext R20.out xa)
      replace R24 := hide (kM.rd_ext R24.out xa)
      replace H0 := hide (H0.out.ext xa)
      replace H1 := hide (H1.out.ext xa)
      clear xa
      obtain ⟨g24, hg24⟩ : ∃ g, Hid (g = w15.heap.size) := ⟨_, rfl⟩
      rw [← hg24.out] at P24
      go_wp2_with fail
      rw [← hW.out, ← hg24.out]
      clear hW hg24
      clear q20
      refine (s.SetComponent_law W16 (.agg #[.slice A20 n20 c20, .slice A20' n20' c20']) d20 y200 y201 y202 R20.out K20.out Iy200.out Iy201.out Iy202.out).mono ?_
      rintro e w17 ⟨v, he, hr, hk, x1⟩
      replace X := hide (X.out.trans x1)
      replace P5 := hide (P5.out.ext x1)
      replace P8 := hide (P8.out.ext x1)
      replace P10 := hide (P10.out.ext x1)
      replace P12 := hide (P12.out.ext x1)
      replace P16 := hide (P16.out.ext x1)
      replace P18 := hide (P18.out.ext x1)
      replace P20 := hide (P20.out.ext x1)
      replace P24 := hide (P24.out.ext x1)
      replace R5 := hide (kM.rd_ext R5.out x1)
      replace R8 := hide (kM.rd_ext R8.out x1)
      replace R10 := hide (kM.rd_ext R10.out x1)
      replace R12 := hide (kM.rd_ext R12.out x1)
      replace R16 := hide (kM.rd_ext R16.out x1)
      replace R18 := hide (kM.rd_ext R18.out x1)
      replace R20 := hide (kM.rd_ext R20.out x1)
      replace R24 := hide (kM.rd_ext R24.out x1)
      replace H0 := hide (H0.out.ext x1)
      replace H1 := hide (H1.out.ext x1)
      clear x1
      have R26 := hide (kM.fr_rd hr)
      have K26 := hide hk
      clear hr hk
      obtain ⟨A26, n26, c26, A26', n26', c26', rfl⟩ := kM.shape R26.out
      rw [ho3.out] at he; subst he
      obtain ⟨W18, hW⟩ : ∃ W, Hid (W = w17.alloc (.cells #[.slice A26 n26 c26, .slice A26' n26' c26'] 25)) := ⟨_, rfl⟩
      have xa : Ext w17 W18 := by rw [hW.out]; exact Ext.alloc _ _
      have P26 : Hid (Blk W18 w17.heap.size #[.slice A26 n26 c26, .slice A26' n26' c26'] 25) := by rw [hW.out]; exact Blk.new rfl _ _
      replace X := hide (X.out.trans xa)
      replace P5 := hide (P5.out.ext xa)
      replace P8 := hide (P8.out.ext xa)
      replace P10 := hide (P10.out.ext xa)
      replace P12 := hide (P12.out.ext xa)
      replace P16 := hide (P16.out.ext xa)
      replace P18 := hide (P18.out.ext xa)
      replace P20 := hide (P20.out.ext xa)
      replace P24 := hide (P24.out.ext xa)
      replace R5 := hide (kM.rd_ext R5.out xa)
      replace R8 := hide (kM.rd_ext R8.out xa)
      replace R10 := hide (kM.rd_ext R10.out xa)
      replace R12 := hide (kM.rd_ext R12.out xa)
      replace R16 := hide (kM.rd_ext R16.out xa)
      replace R18 := hide (kM.rd_ext R18.out xa)
      replace R20 := hide (kM.rd_ext R20.out xa)
      replace R24 := hide (kM.rd_ext R24.out xa)
      replace R26 := hide (kM.rd_ext R26.out xa)
      replace H0 := hide (H0.out.ext xa)
      replace H1 := hide (H1.out.ext xa)
      clear xa
      obtain ⟨g26, hg26⟩ : ∃ g, Hid (g = w17.heap.size) := ⟨_, rfl⟩
      rw [← hg26.out] at P26
      go_wp2_with fail
      rw [← hW.out, ← hg26.out]
      clear hW hg26
      as_aux_lemma =>
        refine (s.DrawDropJudge_m W18 _ _ _ H1.out).mono ?_
        rintro e w19 ⟨v, d28, y280, rfl, hr, ok28, iy280, x1⟩
        replace X := hide (X.out.trans x1)
        replace P5 := hide (P5.out.ext x1)
        replace P8 := hide (P8.out.ext x1)
        replace P10 := hide (P10.out.ext x1)
        replace P12 := hide (P12.out.ext x1)
        replace P16 := hide (P16.out.ext x1)
        replace P18 := hide (P18.out.ext x1)
        replace P20 := hide (P20.out.ext x1)
        replace P24 := hide (P24.out.ext x1)
        replace P26 := hide (P26.out.ext x1)
        replace R5 := hide (kM.rd_ext R5.out x1)
        replace R8 := hide (kM.rd_ext R8.out x1)
        replace R10 := hide (kM.rd_ext R10.out x1)
        replace R12 := hide (kM.rd_ext R12.out x1)
        replace R16 := hide (kM.rd_ext R16.out x1)
        replace R18 := hide (kM.rd_ext R18.out x1)
        replace R20 := hide (kM.rd_ext R20.out x1)
        replace R24 := hide (kM.rd_ext R24.out x1)
        replace R26 := hide (kM.rd_ext R26.out x1)
        replace H0 := hide (H0.out.ext x1)
        replace H1 := hide (H1.out.ext x1)
        clear x1
        have R28 := hide hr.rd
        have K28 := hide ok28
        clear hr ok28
        have Iy280 := hide iy280; clear iy280
        obtain ⟨A28, n28, c28, A28', n28', c28', rfl⟩ := kM.shape R28.out
        obtain ⟨W20, hW⟩ : ∃ W, Hid (W = w19.alloc (.cells #[.slice A28 n28 c28, .slice A28' n28' c28'] 25)) := ⟨_, rfl⟩
        have xa : Ext w19 W20 := by rw [hW.out]; exact Ext.alloc _ _
        have P28 : Hid (Blk W20 w19.heap.size #[.slice A28 n28 c28, .slice A28' n28' c28'] 25) := by rw [hW.out]; exact Blk.new rfl _ _
        replace X := hide (X.out.trans xa)
        replace P5 := hide (P5.out.ext xa)
        replace P8 := hide (P8.out.ext xa)
        replace P10 := hide (P10.out.ext xa)
        replace P12 := hide (P12.out.ext xa)
        replace P16 := hide (P16.out.ext xa)
        replace P18 := hide (P18.out.ext xa)
        replace P20 := hide (P20.out.ext xa)
        replace P24 := hide (P24.out.ext xa)
        replace P26 := hide (P26.out.ext xa)
        replace R5 := hide (kM.rd_ext R5.out xa)
        replace R8 := hide (kM.rd_ext R8.out xa)
        replace R10 := hide (kM.rd_ext R10.out xa)
        replace R12 := hide (kM.rd_ext R12.out xa)
        replace R16 := hide (kM.rd_ext R16.out xa)
        replace R18 := hide (kM.rd_ext R18.out xa)
        replace R20 := hide (kM.rd_ext R20.out xa)
        replace R24 := hide (kM.rd_ext R24.out xa)
        replace R26 := hide (kM.rd_ext R26.out xa)
        replace R28 := hide (kM.rd_ext R28.out xa)
        replace H0 := hide (H0.out.ext xa)
        replace H1 := hide (H1.out.ext xa)
        clear xa
        obtain ⟨g28, hg28⟩ : ∃ g, Hid (g = w19.heap.size) := ⟨_, rfl⟩
        rw [← hg28.out] at P28
        go_wp2_with fail
        rw [← hW.out, ← hg28.out]
        clear hW hg28
        obtain ⟨o5, ho5⟩ : ∃ o, Hid ((dropJudgeF d28 y280).2 = o) := ⟨_, rfl⟩
        refine (i.DropJudge_law W20 (.agg #[.slice A28 n28 c28, .slice A28' n28' c28']) d28 y280 R28.out K28.out Iy280.out).mono ?_
        rintro e w21 ⟨v, he, hr, hk, x1⟩
        replace X := hide (X.out.trans x1)
        replace P5 := hide (P5.out.ext x1)
        replace P8 := hide (P8.out.ext x1)
        replace P10 := hide (P10.out.ext x1)
        replace P12 := hide (P12.out.ext x1)
        replace P16 := hide (P16.out.ext x1)
        replace P18 := hide (P18.out.ext x1)
        replace P20 := hide (P20.out.ext x1)
        replace P24 := hide (P24.out.ext x1)
        replace P26 := hide (P26.out.ext x1)
        replace P28 := hide (P28.out.ext x1)
        replace R5 := hide (kM.rd_ext R5.out x1)
        replace R8 := hide (kM.rd_ext R8.out x1)
        replace R10 := hide (kM.rd_ext R10.out x1)
        replace R12 := hide (kM.rd_ext R12.out x1)
        replace R16 := hide (kM.rd_ext R16.out x1)
        replace R18 := hide (kM.rd_ext R18.out x1)
        replace R20 := hide (kM.rd_ext R20.out x1)
        replace R24 := hide (kM.rd_ext R24.out x1)
        replace R26 := hide (kM.rd_ext R26.out x1)
        replace R28 := hide (kM.rd_ext R28.out x1)
        replace H0 := hide (H0.out.ext x1)
        replace H1 := hide (H1.out.ext x1)
        clear x1
        have R30 := hide (kM.fr_rd hr)
        have K30 := hide hk
        clear hr hk
        obtain ⟨A30, n30, c30, A30', n30', c30', rfl⟩ := kM.shape R30.out
        rw [ho5.out] at he; subst he
        obtain ⟨W22, hW⟩ : ∃ W, Hid (W = w21.alloc (.cells #[.slice A30 n30 c30, .slice A30' n30' c30'] 25)) := ⟨_, rfl⟩
        have q28 := (P28.out.alloc (.cells #[.slice A30 n30 c30, .slice A30' n30' c30'] 25)).cell
        have xa : Ext w21 W22 := by rw [hW.out]; exact Ext.alloc _ _
        have P30 : Hid (Blk W22 w21.heap.size #[.slice A30 n30 c30, .slice A30' n30' c30'] 25) := by rw [hW.out]; exact Blk.new rfl _ _
        replace X := hide (X.out.trans xa)
        replace P5 := hide (P5.out.ext xa)
        replace P8 := hide (P8.out.ext xa)
        replace P10 := hide (P10.out.ext xa)
        replace P12 := hide (P12.out.ext xa)
        replace P16 := hide (P16.out.ext xa)
        replace P18 := hide (P18.out.ext xa)
        replace P20 := hide (P20.out.ext xa)
        replace P24 := hide (P24.out.ext xa)
        replace P26 := hide (P26.out.ext xa)
        replace P28 := hide (P28.out.ext xa)
        replace R5 := hide (kM.rd_ext R5.out xa)
        replace R8 := hide (kM.rd_ext R8.out xa)
        replace R10 := hide (kM.rd_ext R10.out xa)
        replace R12 := hide (kM.rd_ext R12.out xa)
        replace R16 := hide (kM.rd_ext R16.out xa)
        replace R18 := hide (kM.rd_ext R18.out xa)
        replace R20 := hide (kM.rd_ext R20.out xa)
        replace R24 := hide (kM.rd_ext R24.out xa)
        replace R26 := hide (kM.rd_ext R26.out xa)
        replace R28 := hide (kM.rd_ext R28.out xa)
        replace R30 := hide (kM.rd_ext R30.out xa)
        replace H0 := hide (H0.out.ext xa)
        replace H1 := hide (H1.out.ext xa)
        clear xa
        obtain ⟨g30, hg30⟩ : ∃ g, Hid (g = w21.heap.size) := ⟨_, rfl⟩
        rw [← hg30.out] at P30
        go_wp2_with fail
        rw [← hW.out, ← hg30.out]
        clear hW hg30
        clear q28
        refine (s.DropJudge_law W22 (.agg #[.slice A28 n28 c28, .slice A28' n28' c28']) d28 y280 R28.out K28.out Iy280.out).mono ?_
        rintro e w23 ⟨v, he, hr, hk, x1⟩
        replace X := hide (X.out.trans x1)
        replace P5 := hide (P5.out.ext x1)
        replace P8 := hide (P8.out.ext x1)
        replace P10 := hide (P10.out.ext x1)
        replace P12 := hide (P12.out.ext x1)
        replace P16 := hide (P16.out.ext x1)
        replace P18 := hide (P18.out.ext x1)
        replace P20 := hide (P20.out.ext x1)
        replace P24 := hide (P24.out.ext x1)
        replace P26 := hide (P26.out.ext x1)
        replace P28 := hide (P28.out.ext x1)
        replace P30 := hide (P30.out.ext x1)
        replace R5 := hide (kM.rd_ext R5.out x1)
        replace R8 := hide (kM.rd_ext R8.out x1)
        replace R10 := hide (kM.rd_ext R10.out x1)
        replace R12 := hide (kM.rd_ext R12.out x1)
        replace R16 := hide (kM.rd_ext R16.out x1)
        replace R18 := hide (kM.rd_ext R18.out x1)
        replace R20 := hide (kM.rd_ext R20.out x1)
        replace R24 := hide (kM.rd_ext R24.out x1)
        replace R26 := hide (kM.rd_ext R26.out x1)
        replace R28 := hide (kM.rd_ext R28.out x1)
        replace R30 := hide (kM.rd_ext R30.out x1)
        replace H0 := hide (H0.out.ext x1)
        replace H1 := hide (H1.out.ext x1)
        clear x1
        have R32 := hide (kM.fr_rd hr)
        have K32 := hide hk
        clear hr hk
        obtain ⟨A32, n32, c32, A32', n32', c32', rfl⟩ := kM.shape R32.out
        rw [ho5.out] at he; subst he
        obtain ⟨W24, hW⟩ : ∃ W, Hid (W = w23.alloc (.cells #[.slice A32 n32 c32, .slice A32' n32' c32'] 25)) := ⟨_, rfl⟩
        have xa : Ext w23 W24 := by rw [hW.out]; exact Ext.alloc _ _
        have P32 : Hid (Blk W24 w23.heap.size #[.slice A32 n32 c32, .slice A32' n32' c32'] 25) := by rw [hW.out]; exact Blk.new rfl _ _
        replace X := hide (X.out.trans xa)
        replace P5 := hide (P5.out.ext xa)
        replace P8 := hide (P8.out.ext xa)
        replace P10 := hide (P10.out.ext xa)
        replace P12 := hide (P12.out.ext xa)
        replace P16 := hide (P16.out.ext xa)
        replace P18 := hide (P18.out.ext xa)
        replace P20 := hide (P20.out.ext xa)
        replace P24 := hide (P24.out.ext xa)
        replace P26 := hide (P26.out.ext xa)
        replace P28 := hide (P28.out.ext xa)
        replace P30 := hide (P30.out.ext xa)
        replace R5 := hide (kM.rd_ext R5.out xa)
        replace R8 := hide (kM.rd_ext R8.out xa)
        replace R10 := hide (kM.rd_ext R10.out xa)
        replace R12 := hide (kM.rd_ext R12.out xa)
        replace R16 := hide (kM.rd_ext R16.out xa)
        replace R18 := hide (kM.rd_ext R18.out xa)
        replace R20 := hide (kM.rd_ext R20.out xa)
        replace R24 := hide (kM.rd_ext R24.out xa)
        replace R26 := hide (kM.rd_ext R26.out xa)
        replace R28 := hide (kM.rd_ext R28.out xa)
        replace R30 := hide (kM.rd_ext R30.out xa)
        replace R32 := hide (kM.rd_ext R32.out xa)
        replace H0 := hide (H0.out.ext xa)
        replace H1 := hide (H1.out.ext xa)
        clear xa
        obtain ⟨g32, hg32⟩ : ∃ g, Hid (g = w23.heap.size) := ⟨_, rfl⟩
        rw [← hg32.out] at P32
        go_wp2_with fail
        rw [← hW.out, ← hg32.out]
        clear hW hg32
        refine (s.DrawJudgeMarks_m W24 _ _ _ H1.out).mono ?_
        rintro e w25 ⟨v, d34, y340, rfl, hr, ok34, iy340, x1⟩
        replace X := hide (X.out.trans x1)
        replace P5 := hide (P5.out.ext x1)
        replace P8 := hide (P8.out.ext x1)
        replace P10 := hide (P10.out.ext x1)
        replace P12 := hide (P12.out.ext x1)
        replace P16 := hide (P16.out.ext x1)
        replace P18 := hide (P18.out.ext x1)
        replace P20 := hide (P20.out.ext x1)
        replace P24 := hide (P24.out.ext x1)
        replace P26 := hide (P26.out.ext x1)
        replace P28 := hide (P28.out.ext x1)
        replace P30 := hide (P30.out.ext x1)
        replace P32 := hide (P32.out.ext x1)
        replace R5 := hide (kM.rd_ext R5.out x1)
        replace R8 := hide (kM.rd_ext R8.out x1)
        replace R10 := hide (kM.rd_ext R10.out x1)
        replace R12 := hide (kM.rd_ext R12.out x1)
        replace R16 := hide (kM.rd_ext R16.out x1)
        replace R18 := hide (kM.rd_ext R18.out x1)
        replace R20 := hide (kM.rd_ext R20.out x1)
        replace R24 := hide (kM.rd_ext R24.out x1)
        replace R26 := hide (kM.rd_ext R26.out x1)
        replace R28 := hide (kM.rd_ext R28.out x1)
        replace R30 := hide (kM.rd_ext R30.out x1)
        replace R32 := hide (kM.rd_ext R32.out x1)
        replace H0 := hide (H0.out.ext x1)
        replace H1 := hide (H1.out.ext x1)
        clear x1
        have R34 := hide hr.rd
        have K34 := hide ok34
        clear hr ok34
        have Iy340 := hide iy340; clear iy340
        obtain ⟨A34, n34, c34, A34', n34', c34', rfl⟩ := kM.shape R34.out
        obtain ⟨W26, hW⟩ : ∃ W, Hid (W = w25.alloc (.cells #[.slice A34 n34 c34, .slice A34' n34' c34'] 25)) := ⟨_, rfl⟩
        have xa : Ext w25 W26 := by rw [hW.out]; exact Ext.alloc _ _
        have P34 : Hid (Blk W26 w25.heap.size #[.slice A34 n34 c34, .slice A34' n34' c34'] 25) := by rw [hW.out]; exact Blk.new rfl _ _
        replace X := hide (X.out.trans xa)
        replace P5 := hide (P5.out.ext xa)
        replace P8 := hide (P8.out.ext xa)
        replace P10 := hide (P10.out.ext xa)
        replace P12 := hide (P12.out.ext xa)
        replace P16 := hide (P16.out.ext xa)
        replace P18 := hide (P18.out.ext xa)
        replace P20 := hide (P20.out.ext xa)
        replace P24 := hide (P24.out.ext xa)
        replace P26 := hide (P26.out.ext xa)
        replace P28 := hide (P28.out.ext xa)
        replace P30 := hide (P30.out.ext xa)
        replace P32 := hide (P32.out.ext xa)
        replace R5 := hide (kM.rd_ext R5.out xa)
        replace R8 := hide (kM.rd_ext R8.out xa)
        replace R10 := hide (kM.rd_ext R10.out xa)
        replace R12 := hide (kM.rd_ext R12.out xa)
        replace R16 := hide (kM.rd_ext R16.out xa)
        replace R18 := hide (kM.rd_ext R18.out xa)
        replace R20 := hide (kM.rd_ext R20.out xa)
        replace R24 := hide (kM.rd_ext R24.out xa)
        replace R26 := hide (kM.rd_ext R26.out xa)
        replace R28 := hide (kM.rd_ext R28.out xa)
        replace R30 := hide (kM.rd_ext R30.out xa)
        replace R32 := hide (kM.rd_ext R32.out xa)
        replace R34 := hide (kM.rd_ext R34.out xa)
        replace H0 := hide (H0.out.ext xa)
        replace H1 := hide (H1.out.ext xa)
        clear xa
        obtain ⟨g34, hg34⟩ : ∃ g, Hid (g = w25.heap.size) := ⟨_, rfl⟩
        rw [← hg34.out] at P34
        go_wp2_with fail
        rw [← hW.out, ← hg34.out]
        clear hW hg34
        obtain ⟨o7, ho7⟩ : ∃ o, Hid ((judgeMarksF d34 y340).2.2 = o) := ⟨_, rfl⟩
        refine (i.JudgeMarks_law W26 (.agg #[.slice A34 n34 c34, .slice A34' n34' c34']) d34 y340 R34.out K34.out Iy340.out).mono ?_
        rintro e w27 ⟨va, vb, l0, t0, l1, t1, he, hf1, hk1, hf2, hk2, -, x1⟩
        replace X := hide (X.out.trans x1)
        replace P5 := hide (P5.out.ext x1)
        replace P8 := hide (P8.out.ext x1)
        replace P10 := hide (P10.out.ext x1)
        replace P12 := hide (P12.out.ext x1)
        replace P16 := hide (P16.out.ext x1)
        replace P18 := hide (P18.out.ext x1)
        replace P20 := hide (P20.out.ext x1)
        replace P24 := hide (P24.out.ext x1)
        replace P26 := hide (P26.out.ext x1)
        replace P28 := hide (P28.out.ext x1)
        replace P30 := hide (P30.out.ext x1)
        replace P32 := hide (P32.out.ext x1)
        replace P34 := hide (P34.out.ext x1)
        replace R5 := hide (kM.rd_ext R5.out x1)
        replace R8 := hide (kM.rd_ext R8.out x1)
        replace R10 := hide (kM.rd_ext R10.out x1)
        replace R12 := hide (kM.rd_ext R12.out x1)
        replace R16 := hide (kM.rd_ext R16.out x1)
        replace R18 := hide (kM.rd_ext R18.out x1)
        replace R20 := hide (kM.rd_ext R20.out x1)
        replace R24 := hide (kM.rd_ext R24.out x1)
        replace R26 := hide (kM.rd_ext R26.out x1)
        replace R28 := hide (kM.rd_ext R28.out x1)
        replace R30 := hide (kM.rd_ext R30.out x1)
        replace R32 := hide (kM.rd_ext R32.out x1)
        replace R34 := hide (kM.rd_ext R34.out x1)
        replace H0 := hide (H0.out.ext x1)
        replace H1 := hide (H1.out.ext x1)
        clear x1
        rw [ho7.out] at he; subst he
        have R36 := hide (kI.fr_rd hf1)
        have K36 := hide hk1
        clear hf1 hk1
        obtain ⟨A36, c36, rfl, -⟩ := id R36.out
        obtain ⟨n36, hn36⟩ : ∃ n, Hid ((judgeMarksF d34 y340).1.length = n) := ⟨_, rfl⟩
        rw [hn36.out] at R36

        have R37 := hide (kI.fr_rd hf2)
        have K37 := hide hk2
        clear hf2 hk2
        obtain ⟨A37, c37, rfl, -⟩ := id R37.out
        obtain ⟨n37, hn37⟩ : ∃ n, Hid ((judgeMarksF d34 y340).2.1.length = n) := ⟨_, rfl⟩
        rw [hn37.out] at R37

        rw [hn36.out, hn37.out]
        have q34 := P34.out.cell
        go_wp2_with fail
        clear q34
        refine (s.JudgeMarks_law w27 (.agg #[.slice A34 n34 c34, .slice A34' n34' c34']) d34 y340 R34.out K34.out Iy340.out).mono ?_
        rintro e w28 ⟨va, vb, l0, t0, l1, t1, he, hf1, hk1, hf2, hk2, -, x1⟩
        replace X := hide (X.out.trans x1)
        replace P5 := hide (P5.out.ext x1)
        replace P8 := hide (P8.out.ext x1)
        replace P10 := hide (P10.out.ext x1)
        replace P12 := hide (P12.out.ext x1)
        replace P16 := hide (P16.out.ext x1)
        replace P18 := hide (P18.out.ext x1)
        replace P20 := hide (P20.out.ext x1)
        replace P24 := hide (P24.out.ext x1)
        replace P26 := hide (P26.out.ext x1)
        replace P28 := hide (P28.out.ext x1)
        replace P30 := hide (P30.out.ext x1)
        replace P32 := hide (P32.out.ext x1)
        replace P34 := hide (P34.out.ext x1)
        replace R5 := hide (kM.rd_ext R5.out x1)
        replace R8 := hide (kM.rd_ext R8.out x1)
        replace R10 := hide (kM.rd_ext R10.out x1)
        replace R12 := hide (kM.rd_ext R12.out x1)
        replace R16 := hide (kM.rd_ext R16.out x1)
        replace R18 := hide (kM.rd_ext R18.out x1)
        replace R20 := hide (kM.rd_ext R20.out x1)
        replace R24 := hide (kM.rd_ext R24.out x1)
        replace R26 := hide (kM.rd_ext R26.out x1)
        replace R28 := hide (kM.rd_ext R28.out x1)
        replace R30 := hide (kM.rd_ext R30.out x1)
        replace R32 := hide (kM.rd_ext R32.out x1)
        replace R34 := hide (kM.rd_ext R34.out x1)
        replace R36 := hide (kI.rd_ext R36.out x1)
        replace R37 := hide (kI.rd_ext R37.out x1)
        replace H0 := hide (H0.out.ext x1)
        replace H1 := hide (H1.out.ext x1)
        clear x1
        rw [ho7.out] at he; subst he
        have R39 := hide (kI.fr_rd hf1)
        have K39 := hide hk1
        clear hf1 hk1
        obtain ⟨A39, c39, rfl, -⟩ := id R39.out
        obtain ⟨n39, hn39⟩ : ∃ n, Hid ((judgeMarksF d34 y340).1.length = n) := ⟨_, rfl⟩
        rw [hn39.out] at R39

        have R40 := hide (kI.fr_rd hf2)
        have K40 := hide hk2
        clear hf2 hk2
        obtain ⟨A40, c40, rfl, -⟩ := id R40.out
        obtain ⟨n40, hn40⟩ : ∃ n, Hid ((judgeMarksF d34 y340).2.1.length = n) := ⟨_, rfl⟩
        rw [hn40.out] at R40

        rw [hn39.out, hn40.out]
        have q8 := P8.out.cell
        have q10 := P10.out.cell
        have q16 := P16.out.cell
        have q18 := P18.out.cell
        have q24 := P24.out.cell
        have q26 := P26.out.cell
        have q30 := P30.out.cell
        have q32 := P32.out.cell
        go_wp2_with fail
        clear q8 q10 q16 q18 q24 q26 q30 q32
        as_aux_lemma =>
          refine (l.qMarks_same w28 (.agg #[.slice A8 n8 c8, .slice A8' n8' c8']) (.agg #[.slice A10 n10 c10, .slice A10' n10' c10']) (swapJudgesF d5 y50 y51).1 R8.out R10.out K8.out).mono ?_
          rintro e w29 ⟨rfl, x1⟩
          replace X := hide (X.out.trans x1)
          replace P5 := hide (P5.out.ext x1)
          replace P8 := hide (P8.out.ext x1)
          replace P10 := hide (P10.out.ext x1)
          replace P12 := hide (P12.out.ext x1)
          replace P16 := hide (P16.out.ext x1)
          replace P18 := hide (P18.out.ext x1)
          replace P20 := hide (P20.out.ext x1)
          replace P24 := hide (P24.out.ext x1)
          replace P26 := hide (P26.out.ext x1)
          replace P28 := hide (P28.out.ext x1)
          replace P30 := hide (P30.out.ext x1)
          replace P32 := hide (P32.out.ext x1)
          replace P34 := hide (P34.out.ext x1)
          replace R5 := hide (kM.rd_ext R5.out x1)
          replace R8 := hide (kM.rd_ext R8.out x1)
          replace R10 := hide (kM.rd_ext R10.out x1)
          replace R12 := hide (kM.rd_ext R12.out x1)
          replace R16 := hide (kM.rd_ext R16.out x1)
          replace R18 := hide (kM.rd_ext R18.out x1)
          replace R20 := hide (kM.rd_ext R20.out x1)
          replace R24 := hide (kM.rd_ext R24.out x1)
          replace R26 := hide (kM.rd_ext R26.out x1)
          replace R28 := hide (kM.rd_ext R28.out x1)
          replace R30 := hide (kM.rd_ext R30.out x1)
          replace R32 := hide (kM.rd_ext R32.out x1)
          replace R34 := hide (kM.rd_ext R34.out x1)
          replace R36 := hide (kI.rd_ext R36.out x1)
          replace R37 := hide (kI.rd_ext R37.out x1)
          replace R39 := hide (kI.rd_ext R39.out x1)
          replace R40 := hide (kI.rd_ext R40.out x1)
          replace H0 := hide (H0.out.ext x1)
          replace H1 := hide (H1.out.ext x1)
          clear x1
          have q16 := P16.out.cell
          have q18 := P18.out.cell
          have q24 := P24.out.cell
          have q26 := P26.out.cell
          have q30 := P30.out.cell
          have q32 := P32.out.cell
          go_wp2_with fail
          clear q16 q18 q24 q26 q30 q32
          refine (l.qMarks_same w29 (.agg #[.slice A16 n16 c16, .slice A16' n16' c16']) (.agg #[.slice A18 n18 c18, .slice A18' n18' c18']) (setGradeF d12 y120 y121 y122).1 R16.out R18.out K16.out).mono ?_
          rintro e w30 ⟨rfl, x1⟩
          replace X := hide (X.out.trans x1)
          replace P5 := hide (P5.out.ext x1)
          replace P8 := hide (P8.out.ext x1)
          replace P10 := hide (P10.out.ext x1)
          replace P12 := hide (P12.out.ext x1)
          replace P16 := hide (P16.out.ext x1)
          replace P18 := hide (P18.out.ext x1)
          replace P20 := hide (P20.out.ext x1)
          replace P24 := hide (P24.out.ext x1)
          replace P26 := hide (P26.out.ext x1)
          replace P28 := hide (P28.out.ext x1)
          replace P30 := hide (P30.out.ext x1)
          replace P32 := hide (P32.out.ext x1)
          replace P34 := hide (P34.out.ext x1)
          replace R5 := hide (kM.rd_ext R5.out x1)
          replace R8 := hide (kM.rd_ext R8.out x1)
          replace R10 := hide (kM.rd_ext R10.out x1)
          replace R12 := hide (kM.rd_ext R12.out x1)
          replace R16 := hide (kM.rd_ext R16.out x1)
          replace R18 := hide (kM.rd_ext R18.out x1)
          replace R20 := hide (kM.rd_ext R20.out x1)
          replace R24 := hide (kM.rd_ext R24.out x1)
          replace R26 := hide (kM.rd_ext R26.out x1)
          replace R28 := hide (kM.rd_ext R28.out x1)
          replace R30 := hide (kM.rd_ext R30.out x1)
          replace R32 := hide (kM.rd_ext R32.out x1)
          replace R34 := hide (kM.rd_ext R34.out x1)
          replace R36 := hide (kI.rd_ext R36.out x1)
          replace R37 := hide (kI.rd_ext R37.out x1)
          replace R39 := hide (kI.rd_ext R39.out x1)
          replace R40 := hide (kI.rd_ext R40.out x1)
          replace H0 := hide (H0.out.ext x1)
          replace H1 := hide (H1.out.ext x1)
          clear x1
          have q24 := P24.out.cell
          have q26 := P26.out.cell
          have q30 := P30.out.cell
          have q32 := P32.out.cell
          go_wp2_with fail
          clear q24 q26 q30 q32
          refine (l.qMarks_same w30 (.agg #[.slice A24 n24 c24, .slice A24' n24' c24']) (.agg #[.slice A26 n26 c26, .slice A26' n26' c26']) (setComponentF d20 y200 y201 y202).1 R24.out R26.out K24.out).mono ?_
          rintro e w31 ⟨rfl, x1⟩
          replace X := hide (X.out.trans x1)
          replace P5 := hide (P5.out.ext x1)
          replace P8 := hide (P8.out.ext x1)
          replace P10 := hide (P10.out.ext x1)
          replace P12 := hide (P12.out.ext x1)
          replace P16 := hide (P16.out.ext x1)
          replace P18 := hide (P18.out.ext x1)
          replace P20 := hide (P20.out.ext x1)
          replace P24 := hide (P24.out.ext x1)
          replace P26 := hide (P26.out.ext x1)
          replace P28 := hide (P28.out.ext x1)
          replace P30 := hide (P30.out.ext x1)
          replace P32 := hide (P32.out.ext x1)
          replace P34 := hide (P34.out.ext x1)
          replace R5 := hide (kM.rd_ext R5.out x1)
          replace R8 := hide (kM.rd_ext R8.out x1)
          replace R10 := hide (kM.rd_ext R10.out x1)
          replace R12 := hide (kM.rd_ext R12.out x1)
          replace R16 := hide (kM.rd_ext R16.out x1)
          replace R18 := hide (kM.rd_ext R18.out x1)
          replace R20 := hide (kM.rd_ext R20.out x1)
          replace R24 := hide (kM.rd_ext R24.out x1)
          replace R26 := hide (kM.rd_ext R26.out x1)
          replace R28 := hide (kM.rd_ext R28.out x1)
          replace R30 := hide (kM.rd_ext R30.out x1)
          replace R32 := hide (kM.rd_ext R32.out x1)
          replace R34 := hide (kM.rd_ext R34.out x1)
          replace R36 := hide (kI.rd_ext R36.out x1)
          replace R37 := hide (kI.rd_ext R37.out x1)
          replace R39 := hide (kI.rd_ext R39.out x1)
          replace R40 := hide (kI.rd_ext R40.out x1)
          replace H0 := hide (H0.out.ext x1)
          replace H1 := hide (H1.out.ext x1)
          clear x1
          have q30 := P30.out.cell
          have q32 := P32.out.cell
          go_wp2_with fail
          clear q30 q32
          refine (l.qMarks_same w31 (.agg #[.slice A30 n30 c30, .slice A30' n30' c30']) (.agg #[.slice A32 n32 c32, .slice A32' n32' c32']) (dropJudgeF d28 y280).1 R30.out R32.out K30.out).mono ?_
          rintro e w32 ⟨rfl, x1⟩
          replace X := hide (X.out.trans x1)
          replace P5 := hide (P5.out.ext x1)
          replace P8 := hide (P8.out.ext x1)
          replace P10 := hide (P10.out.ext x1)
          replace P12 := hide (P12.out.ext x1)
          replace P16 := hide (P16.out.ext x1)
          replace P18 := hide (P18.out.ext x1)
          replace P20 := hide (P20.out.ext x1)
          replace P24 := hide (P24.out.ext x1)
          replace P26 := hide (P26.out.ext x1)
          replace P28 := hide (P28.out.ext x1)
          replace P30 := hide (P30.out.ext x1)
          replace P32 := hide (P32.out.ext x1)
          replace P34 := hide (P34.out.ext x1)
          replace R5 := hide (kM.rd_ext R5.out x1)
          replace R8 := hide (kM.rd_ext R8.out x1)
          replace R10 := hide (kM.rd_ext R10.out x1)
          replace R12 := hide (kM.rd_ext R12.out x1)
          replace R16 := hide (kM.rd_ext R16.out x1)
          replace R18 := hide (kM.rd_ext R18.out x1)
          replace R20 := hide (kM.rd_ext R20.out x1)
          replace R24 := hide (kM.rd_ext R24.out x1)
          replace R26 := hide (kM.rd_ext R26.out x1)
          replace R28 := hide (kM.rd_ext R28.out x1)
          replace R30 := hide (kM.rd_ext R30.out x1)
          replace R32 := hide (kM.rd_ext R32.out x1)
          replace R34 := hide (kM.rd_ext R34.out x1)
          replace R36 := hide (kI.rd_ext R36.out x1)
          replace R37 := hide (kI.rd_ext R37.out x1)
          replace R39 := hide (kI.rd_ext R39.out x1)
          replace R40 := hide (kI.rd_ext R40.out x1)
          replace H0 := hide (H0.out.ext x1)
          replace H1 := hide (H1.out.ext x1)
          clear x1
          go_wp2_with fail
          refine (l.qInts_kI w32 (.slice A36 n36 c36) (.slice A39 n39 c39) (judgeMarksF d34 y340).1 R36.out R39.out K36.out).mono ?_
          rintro e w33 ⟨rfl, x1⟩
          replace X := hide (X.out.trans x1)
          replace P5 := hide (P5.out.ext x1)
          replace P8 := hide (P8.out.ext x1)
          replace P10 := hide (P10.out.ext x1)
          replace P12 := hide (P12.out.ext x1)
          replace P16 := hide (P16.out.ext x1)
          replace P18 := hide (P18.out.ext x1)
          replace P20 := hide (P20.out.ext x1)
          replace P24 := hide (P24.out.ext x1)
          replace P26 := hide (P26.out.ext x1)
          replace P28 := hide (P28.out.ext x1)
          replace P30 := hide (P30.out.ext x1)
          replace P32 := hide (P32.out.ext x1)
          replace P34 := hide (P34.out.ext x1)
          replace R5 := hide (kM.rd_ext R5.out x1)
          replace R8 := hide (kM.rd_ext R8.out x1)
          replace R10 := hide (kM.rd_ext R10.out x1)
          replace R12 := hide (kM.rd_ext R12.out x1)
          replace R16 := hide (kM.rd_ext R16.out x1)
          replace R18 := hide (kM.rd_ext R18.out x1)
          replace R20 := hide (kM.rd_ext R20.out x1)
          replace R24 := hide (kM.rd_ext R24.out x1)
          replace R26 := hide (kM.rd_ext R26.out x1)
          replace R28 := hide (kM.rd_ext R28.out x1)
          replace R30 := hide (kM.rd_ext R30.out x1)
          replace R32 := hide (kM.rd_ext R32.out x1)
          replace R34 := hide (kM.rd_ext R34.out x1)
          replace R36 := hide (kI.rd_ext R36.out x1)
          replace R37 := hide (kI.rd_ext R37.out x1)
          replace R39 := hide (kI.rd_ext R39.out x1)
          replace R40 := hide (kI.rd_ext R40.out x1)
          replace H0 := hide (H0.out.ext x1)
          replace H1 := hide (H1.out.ext x1)
          clear x1
          go_wp2_with fail
          refine (l.qInts_kI w33 (.slice A37 n37 c37) (.slice A40 n40 c40) (judgeMarksF d34 y340).2.1 R37.out R40.out K37.out).mono ?_
          rintro e w34 ⟨rfl, x1⟩
          replace X := hide (X.out.trans x1)
          replace P5 := hide (P5.out.ext x1)
          replace P8 := hide (P8.out.ext x1)
          replace P10 := hide (P10.out.ext x1)
          replace P12 := hide (P12.out.ext x1)
          replace P16 := hide (P16.out.ext x1)
          replace P18 := hide (P18.out.ext x1)
          replace P20 := hide (P20.out.ext x1)
          replace P24 := hide (P24.out.ext x1)
          replace P26 := hide (P26.out.ext x1)
          replace P28 := hide (P28.out.ext x1)
          replace P30 := hide (P30.out.ext x1)
          replace P32 := hide (P32.out.ext x1)
          replace P34 := hide (P34.out.ext x1)
          replace R5 := hide (kM.rd_ext R5.out x1)
          replace R8 := hide (kM.rd_ext R8.out x1)
          replace R10 := hide (kM.rd_ext R10.out x1)
          replace R12 := hide (kM.rd_ext R12.out x1)
          replace R16 := hide (kM.rd_ext R16.out x1)
          replace R18 := hide (kM.rd_ext R18.out x1)
          replace R20 := hide (kM.rd_ext R20.out x1)
          replace R24 := hide (kM.rd_ext R24.out x1)
          replace R26 := hide (kM.rd_ext R26.out x1)
          replace R28 := hide (kM.rd_ext R28.out x1)
          replace R30 := hide (kM.rd_ext R30.out x1)
          replace R32 := hide (kM.rd_ext R32.out x1)
          replace R34 := hide (kM.rd_ext R34.out x1)
          replace R36 := hide (kI.rd_ext R36.out x1)
          replace R37 := hide (kI.rd_ext R37.out x1)
          replace R39 := hide (kI.rd_ext R39.out x1)
          replace R40 := hide (kI.rd_ext R40.out x1)
          replace H0 := hide (H0.out.ext x1)
          replace H1 := hide (H1.out.ext x1)
          clear x1
          go_upto_if 219 with fail
          go_cut [] (fun wx => Ext w34 wx)
          case first =>
            as_aux_lemma =>
              cases o2
              · go_wp2_with fail
                go_meet
                exact Ext.refl _
              obtain ⟨ix, jx, x, e1, e2, hx, hj, hF, hB, hx2, hin, hi14, hx9⟩ := sg_back ho2.out
              subst e1 e2
              have Q16 : kM.rd w34 (.agg #[.slice A16 n16 c16, .slice A16' n16' c16']) (setG d12 ix jx y122) := by have := R16.out; rw [hF] at this; exact this
              have Q18 : kM.rd w34 (.agg #[.slice A18 n18 c18, .slice A18' n18' c18']) (setG d12 ix jx y122) := by have := R18.out; rw [hF] at this; exact this
              have KQ : kM.ok (setG d12 ix jx y122) := by have := K16.out; rw [hF] at this; exact this
              obtain ⟨hn1, l1, hn2, l2⟩ := kM.lr1 R12.out
              obtain ⟨b, off, bx, ox, cx, hA, hb, hbx, hc1, hcx1, hcx2, hc2⟩ := l1.spot ix x hx jx hj
              obtain ⟨hm1, m1, hm2, m2⟩ := kM.lr1 Q18
              obtain ⟨b', off', bx', ox', cx', hA', hb', hbx', hc1', hcx1', hcx2', hc2'⟩ := m1.spot ix _ hx2 jx (by simpa using hj)
              rw [getD_set_self _ hj] at hc2'
              rw [List.length_set] at hc1' hcx1'
              have hxi : ix < d12.1.length := (List.getElem?_eq_some_iff.1 hx).1
              have hxw : ix < (setG d12 ix jx y122).1.length := (List.getElem?_eq_some_iff.1 hx2).1
              have i1 : (ix : Int) < n12 := by omega
              have i2 : (ix : Int) < n18 := by omega

              obtain ⟨lx, hlx⟩ : ∃ l, Hid (x.length = l) := ⟨_, rfl⟩
              rw [hlx.out] at hc1 hcx1 hc1' hcx1' hj hx9
              have i3 : (jx : Int) < lx := by omega
              obtain ⟨yo, hyo⟩ : ∃ y, Hid (x.getD jx 0 = y) := ⟨_, rfl⟩
              rw [hyo.out] at hc2 hin hB
              subst hA
              subst hA'
              have SF : Hid (∀ wz, Ext w34 wz → (∀ i, wz.cell? ⟨g16, i, none⟩ = #[Value.slice A16 n16 c16, .slice A16' n16' c16'][i]?) ∧ (∀ i, wz.cell? ⟨g12, i, none⟩ = #[Value.slice (some ⟨b, off, none⟩) n12 c12, .slice A12' n12' c12'][i]?) ∧ wz.cell? ⟨b, off + ix, none⟩ = some (.slice (some ⟨bx, ox, none⟩) lx cx) ∧ wz.cell? ⟨bx, ox + jx, none⟩ = some (.int .i64 yo)) := fun wz k => ⟨(P16.out.ext k).cell, (P12.out.ext k).cell, (k.cell hb).trans hc1, (k.cell hbx).trans hc2⟩
              have SW : Hid (∀ wz, Ext w34 wz → (∀ i, wz.cell? ⟨g18, i, none⟩ = #[Value.slice (some ⟨b', off', none⟩) n18 c18, .slice A18' n18' c18'][i]?) ∧ wz.cell? ⟨b', off' + ix, none⟩ = some (.slice (some ⟨bx', ox', none⟩) lx cx') ∧ wz.cell? ⟨bx', ox' + jx, none⟩ = some (.int .i64 y122)) := fun wz k => ⟨(P18.out.ext k).cell, (k.cell hb').trans hc1', (k.cell hbx').trans hc2'⟩
              have SG : Hid (∀ wq, Ext w34 wq → Calls Try.prog 8 #[.agg #[.slice A16 n16 c16, .slice A16' n16' c16'], .int .i64 ix, .int .i64 jx, .int .i64 yo] wq fun e w' => ∃ A2 n2 c2 A3 n3 c3, e = .returned (.tuple #[.agg #[.slice A2 n2 c2, .slice A3 n3 c3], .bool true]) ∧ kM.fr w' wq.heap.size w'.heap.size (.agg #[.slice A2 n2 c2, .slice A3 n3 c3]) d12 ∧ Ext wq w') := by
                intro wq xq
                refine (i.SetGrade_law wq _ (setG d12 ix jx y122) ix jx yo (kM.rd_ext Q16 xq) KQ (by unfold InR; omega) (by unfold InR; omega) hin).mono ?_
                rintro e w' ⟨v, he, hr, hk, x1⟩
                rw [hB] at he hr
                obtain ⟨A2, n2, c2, A3, n3, c3, rfl⟩ := kM.shape (kM.fr_rd hr)
                exact ⟨A2, n2, c2, A3, n3, c3, he, hr, x1⟩
              have XE : Hid (Ext w34 (w34.alloc (.cells #[.slice none 0 0, .slice none 0 0] 25)).drew) := (Ext.alloc _ _).trans (Ext.drew _)
              have RS := R12
              have KS := K12
              have nn : ((y122 : Int) != y122) = false := by simp
              have XX := X
              have HH : True := trivial
              clear hx hF hB hx2 Q16 Q18 KQ hn1 l1 hn2 l2 hm1 m1 hm2 m2 hb hbx hb' hbx' hc1 hc2 hc1' hc2' hin hxi hxw HH
              go_wp2_with fail
              go_region_held3 (fun wz => (∀ i, wz.cell? ⟨g16, i, none⟩ = #[Value.slice A16 n16 c16, .slice A16' n16' c16'][i]?) ∧ (∀ i, wz.cell? ⟨g12, i, none⟩ = #[Value.slice (some ⟨b, off, none⟩) n12 c12, .slice A12' n12' c12'][i]?) ∧ wz.cell? ⟨b, off + ix, none⟩ = some (.slice (some ⟨bx, ox, none⟩) lx cx) ∧ wz.cell? ⟨bx, ox + jx, none⟩ = some (.int .i64 yo))
                (first | with_reducible exact SF.out _ XL.out | with_reducible exact SF.out _ XZ.out | with_reducible exact SF.out _ XA.out | with_reducible exact SF.out _ XE.out | with_reducible exact SF.out _ (Ext.drew _) | fail)
                (first
                  | (go_at_call 8; refine (SG.out _ XE.out).mono ?_; rintro e wA ⟨A2, n2, c2, A3, n3, c3, rfl, hr, x1⟩; obtain ⟨WB, gX, hWB, hgX, XB, PB, RB⟩ := box_early x1 hr; have XL : Hid (Ext w34 ((wA.setCell ⟨w34.heap.size, 0, none⟩ (.slice A2 n2 c2)).setCell ⟨w34.heap.size, 1, none⟩ (.slice A3 n3 c3))) := (hWB.out ▸ XB.out); have XA := hide (XE.out.trans x1); have ec := (early_cell x1).1; have ef := (early_cell x1).2; clear hr x1)
                  | (go_at_call 8; refine (SG.out _ (Ext.drew w34)).mono ?_; rintro e wA ⟨A2, n2, c2, A3, n3, c3, rfl, hr, x1⟩; obtain ⟨WB, gX, hWB, hgX, XB, PB, RB⟩ := box_late ((Ext.drew w34).trans x1) hr; have XL : Hid (Ext w34 (wA.alloc (.cells #[.slice A2 n2 c2, .slice A3 n3 c3] 25))) := (hWB.out ▸ XB.out); have XA := hide ((Ext.drew w34).trans x1); have XZ := hide (XA.out.trans (Ext.alloc wA (.cells #[.slice none 0 0, .slice none 0 0] 25))); have ec : True := trivial; have ef : True := trivial; clear hr x1)
                  | fail)
              all_goals
                rw [← hWB.out, ← hgX.out]
                clear hWB hgX XL ec ef
                have RS2 : Hid (kM.rd WB (.agg #[.slice (some ⟨b, off, none⟩) n12 c12, .slice A12' n12' c12']) d12) := kM.rd_ext RS.out XB.out
                have q1 := (SF.out _ XB.out).2.1
                have q9 := PB.out.cell
                go_wp2_with fail
                clear q1 q9
                refine (l.qMarks_same WB (.agg #[.slice A2 n2 c2, .slice A3 n3 c3]) (.agg #[.slice (some ⟨b, off, none⟩) n12 c12, .slice A12' n12' c12']) d12 RB.out RS2.out KS.out).mono ?_
                rintro e wC ⟨rfl, x1⟩
                have XD := hide (XB.out.trans x1)
                obtain ⟨q1, q2, q3⟩ := SW.out wC XD.out
                clear x1
                go_wp2_with fail
                go_meet
                exact XD.out
          case rest =>
            as_aux_lemma =>
              have x1 := hcut
              clear hcut
              replace X := hide (X.out.trans x1)
              replace P5 := hide (P5.out.ext x1)
              replace P8 := hide (P8.out.ext x1)
              replace P10 := hide (P10.out.ext x1)
              replace P12 := hide (P12.out.ext x1)
              replace P16 := hide (P16.out.ext x1)
              replace P18 := hide (P18.out.ext x1)
              replace P20 := hide (P20.out.ext x1)
              replace P24 := hide (P24.out.ext x1)
              replace P26 := hide (P26.out.ext x1)
              replace P28 := hide (P28.out.ext x1)
              replace P30 := hide (P30.out.ext x1)
              replace P32 := hide (P32.out.ext x1)
              replace P34 := hide (P34.out.ext x1)
              replace R5 := hide (kM.rd_ext R5.out x1)
              replace R8 := hide (kM.rd_ext R8.out x1)
              replace R10 := hide (kM.rd_ext R10.out x1)
              replace R12 := hide (kM.rd_ext R12.out x1)
              replace R16 := hide (kM.rd_ext R16.out x1)
              replace R18 := hide (kM.rd_ext R18.out x1)
              replace R20 := hide (kM.rd_ext R20.out x1)
              replace R24 := hide (kM.rd_ext R24.out x1)
              replace R26 := hide (kM.rd_ext R26.out x1)
              replace R28 := hide (kM.rd_ext R28.out x1)
              replace R30 := hide (kM.rd_ext R30.out x1)
              replace R32 := hide (kM.rd_ext R32.out x1)
              replace R34 := hide (kM.rd_ext R34.out x1)
              replace R36 := hide (kI.rd_ext R36.out x1)
              replace R37 := hide (kI.rd_ext R37.out x1)
              replace R39 := hide (kI.rd_ext R39.out x1)
              replace R40 := hide (kI.rd_ext R40.out x1)
              replace H0 := hide (H0.out.ext x1)
              replace H1 := hide (H1.out.ext x1)
              clear x1
              go_upto_if 255 with fail
              go_cut [] (fun wx => Ext wc wx)
              case first =>
                as_aux_lemma =>
                  cases o3
                  · go_wp2_with fail
                    go_meet
                    exact Ext.refl _
                  obtain ⟨ix, jx, x, e1, e2, hx, hj, hF, hB, hx2, hin, hi14, hx9, hz⟩ := sc_back ho3.out
                  subst e1 e2
                  have Q16 : kM.rd wc (.agg #[.slice A24 n24 c24, .slice A24' n24' c24']) (setC d20 ix jx y202) := by have := R24.out; rw [hF] at this; exact this
                  have Q18 : kM.rd wc (.agg #[.slice A26 n26 c26, .slice A26' n26' c26']) (setC d20 ix jx y202) := by have := R26.out; rw [hF] at this; exact this
                  have KQ : kM.ok (setC d20 ix jx y202) := by have := K24.out; rw [hF] at this; exact this
                  obtain ⟨hn1, l1, hn2, l2⟩ := kM.lr1 R20.out
                  obtain ⟨b, off, bx, ox, cx, hA, hb, hbx, hc1, hcx1, hcx2, hc2⟩ := l2.spot ix x hx jx hj
                  obtain ⟨hm1, m1, hm2, m2⟩ := kM.lr1 Q18
                  obtain ⟨b', off', bx', ox', cx', hA', hb', hbx', hc1', hcx1', hcx2', hc2'⟩ := m2.spot ix _ hx2 jx (by simpa using hj)
                  rw [getD_set_self _ hj] at hc2'
                  rw [List.length_set] at hc1' hcx1'
                  have hxi : ix < d20.2.length := (List.getElem?_eq_some_iff.1 hx).1
                  have hxw : ix < (setC d20 ix jx y202).2.length := (List.getElem?_eq_some_iff.1 hx2).1
                  have i1 : (ix : Int) < n20' := by omega
                  have i2 : (ix : Int) < n26' := by omega

                  obtain ⟨lx, hlx⟩ : ∃ l, Hid (x.length = l) := ⟨_, rfl⟩
                  rw [hlx.out] at hc1 hcx1 hc1' hcx1' hj hx9
                  have i3 : (jx : Int) < lx := by omega
                  obtain ⟨yo, hyo⟩ : ∃ y, Hid (x.getD jx 0 = y) := ⟨_, rfl⟩
                  rw [hyo.out] at hc2 hin hB
                  subst hA
                  subst hA'
                  have SF : Hid (∀ wz, Ext wc wz → (∀ i, wz.cell? ⟨g24, i, none⟩ = #[Value.slice A24 n24 c24, .slice A24' n24' c24'][i]?) ∧ (∀ i, wz.cell? ⟨g20, i, none⟩ = #[Value.slice A20 n20 c20, .slice (some ⟨b, off, none⟩) n20' c20'][i]?) ∧ wz.cell? ⟨b, off + ix, none⟩ = some (.slice (some ⟨bx, ox, none⟩) lx cx) ∧ wz.cell? ⟨bx, ox + jx, none⟩ = some (.int .i64 yo)) := fun wz k => ⟨(P24.out.ext k).cell, (P20.out.ext k).cell, (k.cell hb).trans hc1, (k.cell hbx).trans hc2⟩
                  have SW : Hid (∀ wz, Ext wc wz → (∀ i, wz.cell? ⟨g26, i, none⟩ = #[Value.slice A26 n26 c26, .slice (some ⟨b', off', none⟩) n26' c26'][i]?) ∧ wz.cell? ⟨b', off' + ix, none⟩ = some (.slice (some ⟨bx', ox', none⟩) lx cx') ∧ wz.cell? ⟨bx', ox' + jx, none⟩ = some (.int .i64 y202)) := fun wz k => ⟨(P26.out.ext k).cell, (k.cell hb').trans hc1', (k.cell hbx').trans hc2'⟩
                  have SG : Hid (∀ wq, Ext wc wq → Calls Try.prog 11 #[.agg #[.slice A24 n24 c24, .slice A24' n24' c24'], .int .i64 ix, .int .i64 jx, .int .i64 yo] wq fun e w' => ∃ A2 n2 c2 A3 n3 c3, e = .returned (.tuple #[.agg #[.slice A2 n2 c2, .slice A3 n3 c3], .bool true]) ∧ kM.fr w' wq.heap.size w'.heap.size (.agg #[.slice A2 n2 c2, .slice A3 n3 c3]) d20 ∧ Ext wq w') := by
                    intro wq xq
                    refine (i.SetComponent_law wq _ (setC d20 ix jx y202) ix jx yo (kM.rd_ext Q16 xq) KQ (by unfold InR; omega) (by unfold InR; omega) hin).mono ?_
                    rintro e w' ⟨v, he, hr, hk, x1⟩
                    rw [hB] at he hr
                    obtain ⟨A2, n2, c2, A3, n3, c3, rfl⟩ := kM.shape (kM.fr_rd hr)
                    exact ⟨A2, n2, c2, A3, n3, c3, he, hr, x1⟩
                  have XE : Hid (Ext wc (wc.alloc (.cells #[.slice none 0 0, .slice none 0 0] 25)).drew) := (Ext.alloc _ _).trans (Ext.drew _)
                  have RS := R20
                  have KS := K20
                  have nn : ((y202 : Int) != y202) = false := by simp
                  have zz : ((y202 : Int).tmod 25 != 0) = false := by rw [hz]; rfl
                  have XX := X
                  have HH : True := trivial
                  clear hx hF hB hx2 Q16 Q18 KQ hn1 l1 hn2 l2 hm1 m1 hm2 m2 hb hbx hb' hbx' hc1 hc2 hc1' hc2' hin hxi hxw HH hz
                  go_wp2_with fail
                  go_region_held3 (fun wz => (∀ i, wz.cell? ⟨g24, i, none⟩ = #[Value.slice A24 n24 c24, .slice A24' n24' c24'][i]?) ∧ (∀ i, wz.cell? ⟨g20, i, none⟩ = #[Value.slice A20 n20 c20, .slice (some ⟨b, off, none⟩) n20' c20'][i]?) ∧ wz.cell? ⟨b, off + ix, none⟩ = some (.slice (some ⟨bx, ox, none⟩) lx cx) ∧ wz.cell? ⟨bx, ox + jx, none⟩ = some (.int .i64 yo))
                    (first | with_reducible exact SF.out _ XL.out | with_reducible exact SF.out _ XZ.out | with_reducible exact SF.out _ XA.out | with_reducible exact SF.out _ XE.out | with_reducible exact SF.out _ (Ext.drew _) | fail)
                    (first
                      | (go_at_call 11; refine (SG.out _ XE.out).mono ?_; rintro e wA ⟨A2, n2, c2, A3, n3, c3, rfl, hr, x1⟩; obtain ⟨WB, gX, hWB, hgX, XB, PB, RB⟩ := box_early x1 hr; have XL : Hid (Ext wc ((wA.setCell ⟨wc.heap.size, 0, none⟩ (.slice A2 n2 c2)).setCell ⟨wc.heap.size, 1, none⟩ (.slice A3 n3 c3))) := (hWB.out ▸ XB.out); have XA := hide (XE.out.trans x1); have ec := (early_cell x1).1; have ef := (early_cell x1).2; clear hr x1)
                      | (go_at_call 11; refine (SG.out _ (Ext.drew wc)).mono ?_; rintro e wA ⟨A2, n2, c2, A3, n3, c3, rfl, hr, x1⟩; obtain ⟨WB, gX, hWB, hgX, XB, PB, RB⟩ := box_late ((Ext.drew wc).trans x1) hr; have XL : Hid (Ext wc (wA.alloc (.cells #[.slice A2 n2 c2, .slice A3 n3 c3] 25))) := (hWB.out ▸ XB.out); have XA := hide ((Ext.drew wc).trans x1); have XZ := hide (XA.out.trans (Ext.alloc wA (.cells #[.slice none 0 0, .slice none 0 0] 25))); have ec : True := trivial; have ef : True := trivial; clear hr x1)
                      | fail)
                  all_goals
                    rw [← hWB.out, ← hgX.out]
                    clear hWB hgX XL ec ef
                    have RS2 : Hid (kM.rd WB (.agg #[.slice A20 n20 c20, .slice (some ⟨b, off, none⟩) n20' c20']) d20) := kM.rd_ext RS.out XB.out
                    have q1 := (SF.out _ XB.out).2.1
                    have q9 := PB.out.cell
                    go_wp2_with fail
                    clear q1 q9
                    refine (l.qMarks_same WB (.agg #[.slice A2 n2 c2, .slice A3 n3 c3]) (.agg #[.slice A20 n20 c20, .slice (some ⟨b, off, none⟩) n20' c20']) d20 RB.out RS2.out KS.out).mono ?_
                    rintro e wC ⟨rfl, x1⟩
                    have XD := hide (XB.out.trans x1)
                    obtain ⟨q1, q2, q3⟩ := SW.out wC XD.out
                    clear x1
                    go_wp2_with fail
                    go_meet
                    exact XD.out
              case rest =>
                as_aux_lemma =>
                  have x1 := hcut
                  clear hcut
                  replace X := hide (X.out.trans x1)
                  replace P5 := hide (P5.out.ext x1)
                  replace P8 := hide (P8.out.ext x1)
                  replace P10 := hide (P10.out.ext x1)
                  replace P12 := hide (P12.out.ext x1)
                  replace P16 := hide (P16.out.ext x1)
                  replace P18 := hide (P18.out.ext x1)
                  replace P20 := hide (P20.out.ext x1)
                  replace P24 := hide (P24.out.ext x1)
                  replace P26 := hide (P26.out.ext x1)
                  replace P28 := hide (P28.out.ext x1)
                  replace P30 := hide (P30.out.ext x1)
                  replace P32 := hide (P32.out.ext x1)
                  replace P34 := hide (P34.out.ext x1)
                  replace R5 := hide (kM.rd_ext R5.out x1)
                  replace R8 := hide (kM.rd_ext R8.out x1)
                  replace R10 := hide (kM.rd_ext R10.out x1)
                  replace R12 := hide (kM.rd_ext R12.out x1)
                  replace R16 := hide (kM.rd_ext R16.out x1)
                  replace R18 := hide (kM.rd_ext R18.out x1)
                  replace R20 := hide (kM.rd_ext R20.out x1)
                  replace R24 := hide (kM.rd_ext R24.out x1)
                  replace R26 := hide (kM.rd_ext R26.out x1)
                  replace R28 := hide (kM.rd_ext R28.out x1)
                  replace R30 := hide (kM.rd_ext R30.out x1)
                  replace R32 := hide (kM.rd_ext R32.out x1)
                  replace R34 := hide (kM.rd_ext R34.out x1)
                  replace R36 := hide (kI.rd_ext R36.out x1)
                  replace R37 := hide (kI.rd_ext R37.out x1)
                  replace R39 := hide (kI.rd_ext R39.out x1)
                  replace R40 := hide (kI.rd_ext R40.out x1)
                  replace H0 := hide (H0.out.ext x1)
                  replace H1 := hide (H1.out.ext x1)
                  clear x1
                  go_upto_if 296 with fail
                  go_cut [] (fun wx => Ext wc wx)
                  case first =>
                    as_aux_lemma =>
                      cases o5
                      · go_wp2_with fail
                        go_meet
                        exact Ext.refl _
                      obtain ⟨hJ1, hJ2, hJ9⟩ := dj_back ho5.out
                      obtain ⟨J, hJ⟩ : ∃ J, Hid (judges d28 = J) := ⟨_, rfl⟩
                      rw [hJ.out] at hJ1 hJ2 hJ9
                      have j1 := hide (i.JudgesOf_law wc (.agg #[.slice A28 n28 c28, .slice A28' n28' c28']) d28 R28.out K28.out)
                      rw [hJ1] at j1
                      have j2 : Hid (∀ wq, Ext wc wq → Calls Try.prog 21 #[.agg #[.slice A30 n30 c30, .slice A30' n30' c30']] wq fun e w' => e = .returned (.tuple #[.int .i64 ((J : Int) - 1), .bool true]) ∧ Ext wq w') := fun wq xq => by
                        have h := i.JudgesOf_law wq (.agg #[.slice A30 n30 c30, .slice A30' n30' c30']) (dropJudgeF d28 y280).1 (kM.rd_ext R30.out xq) K30.out
                        rw [hJ2] at h
                        exact h
                      clear hJ1 hJ2 hJ
                      have nn : (((J : Int) - 1) != ((J : Int) - 1)) = false := by simp
                      have q28 := P28.out.cell
                      go_wp2_with fail
                      clear q28
                      refine j1.out.mono ?_
                      rintro e wA ⟨rfl, x1⟩
                      have XA := hide x1
                      have q30 := (P30.out.ext x1).cell
                      clear x1
                      go_wp2_with fail
                      clear q30
                      refine (j2.out _ XA.out).mono ?_
                      rintro e wB ⟨rfl, x1⟩
                      have XB := hide (XA.out.trans x1)
                      clear x1
                      go_wp2_with fail
                      go_meet
                      exact XB.out
                  case rest =>
                    as_aux_lemma =>
                      have x1 := hcut
                      clear hcut
                      replace X := hide (X.out.trans x1)
                      replace P5 := hide (P5.out.ext x1)
                      replace P8 := hide (P8.out.ext x1)
                      replace P10 := hide (P10.out.ext x1)
                      replace P12 := hide (P12.out.ext x1)
                      replace P16 := hide (P16.out.ext x1)
                      replace P18 := hide (P18.out.ext x1)
                      replace P20 := hide (P20.out.ext x1)
                      replace P24 := hide (P24.out.ext x1)
                      replace P26 := hide (P26.out.ext x1)
                      replace P28 := hide (P28.out.ext x1)
                      replace P30 := hide (P30.out.ext x1)
                      replace P32 := hide (P32.out.ext x1)
                      replace P34 := hide (P34.out.ext x1)
                      replace R5 := hide (kM.rd_ext R5.out x1)
                      replace R8 := hide (kM.rd_ext R8.out x1)
                      replace R10 := hide (kM.rd_ext R10.out x1)
                      replace R12 := hide (kM.rd_ext R12.out x1)
                      replace R16 := hide (kM.rd_ext R16.out x1)
                      replace R18 := hide (kM.rd_ext R18.out x1)
                      replace R20 := hide (kM.rd_ext R20.out x1)
                      replace R24 := hide (kM.rd_ext R24.out x1)
                      replace R26 := hide (kM.rd_ext R26.out x1)
                      replace R28 := hide (kM.rd_ext R28.out x1)
                      replace R30 := hide (kM.rd_ext R30.out x1)
                      replace R32 := hide (kM.rd_ext R32.out x1)
                      replace R34 := hide (kM.rd_ext R34.out x1)
                      replace R36 := hide (kI.rd_ext R36.out x1)
                      replace R37 := hide (kI.rd_ext R37.out x1)
                      replace R39 := hide (kI.rd_ext R39.out x1)
                      replace R40 := hide (kI.rd_ext R40.out x1)
                      replace H0 := hide (H0.out.ext x1)
                      replace H1 := hide (H1.out.ext x1)
                      clear x1
                      cases o1
                      · go_wp2_with fail
                        go_ret
                        exact ⟨rfl, X.out⟩
                      obtain ⟨hS1, hS2⟩ := sw_back ho1.out
                      have SG : Hid (Calls Try.prog 5 #[.agg #[.slice A8 n8 c8, .slice A8' n8' c8'], .int .i64 y51, .int .i64 y50] wc fun e w' => ∃ A2 n2 c2 A3 n3 c3, e = .returned (.tuple #[.agg #[.slice A2 n2 c2, .slice A3 n3 c3], .bool true]) ∧ kM.rd w' (.agg #[.slice A2 n2 c2, .slice A3 n3 c3]) d5 ∧ Ext wc w') := by
                        refine (i.SwapJudges_law wc _ (swapJudgesF d5 y50 y51).1 y51 y50 R8.out K8.out Iy51.out Iy50.out).mono ?_
                        rintro e w' ⟨v, he, hr, hk, x1⟩
                        rw [hS1] at he hr
                        have hr := kM.fr_rd hr
                        obtain ⟨A2, n2, c2, A3, n3, c3, rfl⟩ := kM.shape hr
                        exact ⟨A2, n2, c2, A3, n3, c3, he, hr, x1⟩
                      have HS2 := hide hS2
                      clear hS1 hS2
                      have q8 := P8.out.cell
                      go_wp2_with fail
                      clear q8
                      refine (SG.out).mono ?_
                      rintro e w35 ⟨A2, n2, c2, A3, n3, c3, rfl, hr, x1⟩
                      replace X := hide (X.out.trans x1)
                      replace P5 := hide (P5.out.ext x1)
                      replace P8 := hide (P8.out.ext x1)
                      replace P10 := hide (P10.out.ext x1)
                      replace P12 := hide (P12.out.ext x1)
                      replace P16 := hide (P16.out.ext x1)
                      replace P18 := hide (P18.out.ext x1)
                      replace P20 := hide (P20.out.ext x1)
                      replace P24 := hide (P24.out.ext x1)
                      replace P26 := hide (P26.out.ext x1)
                      replace P28 := hide (P28.out.ext x1)
                      replace P30 := hide (P30.out.ext x1)
                      replace P32 := hide (P32.out.ext x1)
                      replace P34 := hide (P34.out.ext x1)
                      replace R5 := hide (kM.rd_ext R5.out x1)
                      replace R8 := hide (kM.rd_ext R8.out x1)
                      replace R10 := hide (kM.rd_ext R10.out x1)
                      replace R12 := hide (kM.rd_ext R12.out x1)
                      replace R16 := hide (kM.rd_ext R16.out x1)
                      replace R18 := hide (kM.rd_ext R18.out x1)
                      replace R20 := hide (kM.rd_ext R20.out x1)
                      replace R24 := hide (kM.rd_ext R24.out x1)
                      replace R26 := hide (kM.rd_ext R26.out x1)
                      replace R28 := hide (kM.rd_ext R28.out x1)
                      replace R30 := hide (kM.rd_ext R30.out x1)
                      replace R32 := hide (kM.rd_ext R32.out x1)
                      replace R34 := hide (kM.rd_ext R34.out x1)
                      replace R36 := hide (kI.rd_ext R36.out x1)
                      replace R37 := hide (kI.rd_ext R37.out x1)
                      replace R39 := hide (kI.rd_ext R39.out x1)
                      replace R40 := hide (kI.rd_ext R40.out x1)
                      replace H0 := hide (H0.out.ext x1)
                      replace H1 := hide (H1.out.ext x1)
                      clear x1
                      have R50 := hide hr
                      clear hr
                      obtain ⟨W36, hW⟩ : ∃ W, Hid (W = w35.alloc (.cells #[.slice A2 n2 c2, .slice A3 n3 c3] 25)) := ⟨_, rfl⟩
                      have q5 := (P5.out.alloc (.cells #[.slice A2 n2 c2, .slice A3 n3 c3] 25)).cell
                      have xa : Ext w35 W36 := by rw [hW.out]; exact Ext.alloc _ _
                      have P50 : Hid (Blk W36 w35.heap.size #[.slice A2 n2 c2, .slice A3 n3 c3] 25) := by rw [hW.out]; exact Blk.new rfl _ _
                      replace X := hide (X.out.trans xa)
                      replace P5 := hide (P5.out.ext xa)
                      replace P8 := hide (P8.out.ext xa)
                      replace P10 := hide (P10.out.ext xa)
                      replace P12 := hide (P12.out.ext xa)
                      replace P16 := hide (P16.out.ext xa)
                      replace P18 := hide (P18.out.ext xa)
                      replace P20 := hide (P20.out.ext xa)
                      replace P24 := hide (P24.out.ext xa)
                      replace P26 := hide (P26.out.ext xa)
                      replace P28 := hide (P28.out.ext xa)
                      replace P30 := hide (P30.out.ext xa)
                      replace P32 := hide (P32.out.ext xa)
                      replace P34 := hide (P34.out.ext xa)
                      replace R5 := hide (kM.rd_ext R5.out xa)
                      replace R8 := hide (kM.rd_ext R8.out xa)
                      replace R10 := hide (kM.rd_ext R10.out xa)
                      replace R12 := hide (kM.rd_ext R12.out xa)
                      replace R16 := hide (kM.rd_ext R16.out xa)
                      replace R18 := hide (kM.rd_ext R18.out xa)
                      replace R20 := hide (kM.rd_ext R20.out xa)
                      replace R24 := hide (kM.rd_ext R24.out xa)
                      replace R26 := hide (kM.rd_ext R26.out xa)
                      replace R28 := hide (kM.rd_ext R28.out xa)
                      replace R30 := hide (kM.rd_ext R30.out xa)
                      replace R32 := hide (kM.rd_ext R32.out xa)
                      replace R34 := hide (kM.rd_ext R34.out xa)
                      replace R36 := hide (kI.rd_ext R36.out xa)
                      replace R37 := hide (kI.rd_ext R37.out xa)
                      replace R39 := hide (kI.rd_ext R39.out xa)
                      replace R40 := hide (kI.rd_ext R40.out xa)
                      replace R50 := hide (kM.rd_ext R50.out xa)
                      replace H0 := hide (H0.out.ext xa)
                      replace H1 := hide (H1.out.ext xa)
                      clear xa
                      obtain ⟨g50, hg50⟩ : ∃ g, Hid (g = w35.heap.size) := ⟨_, rfl⟩
                      rw [← hg50.out] at P50
                      go_wp2_with fail
                      rw [← hW.out, ← hg50.out]
                      clear hW hg50
                      clear q5
                      refine (l.qMarks_same W36 (.agg #[.slice A2 n2 c2, .slice A3 n3 c3]) (.agg #[.slice A5 n5 c5, .slice A5' n5' c5']) d5 R50.out R5.out K5.out).mono ?_
                      rintro e w37 ⟨rfl, x1⟩
                      replace X := hide (X.out.trans x1)
                      replace P5 := hide (P5.out.ext x1)
                      replace P8 := hide (P8.out.ext x1)
                      replace P10 := hide (P10.out.ext x1)
                      replace P12 := hide (P12.out.ext x1)
                      replace P16 := hide (P16.out.ext x1)
                      replace P18 := hide (P18.out.ext x1)
                      replace P20 := hide (P20.out.ext x1)
                      replace P24 := hide (P24.out.ext x1)
                      replace P26 := hide (P26.out.ext x1)
                      replace P28 := hide (P28.out.ext x1)
                      replace P30 := hide (P30.out.ext x1)
                      replace P32 := hide (P32.out.ext x1)
                      replace P34 := hide (P34.out.ext x1)
                      replace P50 := hide (P50.out.ext x1)
                      replace R5 := hide (kM.rd_ext R5.out x1)
                      replace R8 := hide (kM.rd_ext R8.out x1)
                      replace R10 := hide (kM.rd_ext R10.out x1)
                      replace R12 := hide (kM.rd_ext R12.out x1)
                      replace R16 := hide (kM.rd_ext R16.out x1)
                      replace R18 := hide (kM.rd_ext R18.out x1)
                      replace R20 := hide (kM.rd_ext R20.out x1)
                      replace R24 := hide (kM.rd_ext R24.out x1)
                      replace R26 := hide (kM.rd_ext R26.out x1)
                      replace R28 := hide (kM.rd_ext R28.out x1)
                      replace R30 := hide (kM.rd_ext R30.out x1)
                      replace R32 := hide (kM.rd_ext R32.out x1)
                      replace R34 := hide (kM.rd_ext R34.out x1)
                      replace R36 := hide (kI.rd_ext R36.out x1)
                      replace R37 := hide (kI.rd_ext R37.out x1)
                      replace R39 := hide (kI.rd_ext R39.out x1)
                      replace R40 := hide (kI.rd_ext R40.out x1)
                      replace R50 := hide (kM.rd_ext R50.out x1)
                      replace H0 := hide (H0.out.ext x1)
                      replace H1 := hide (H1.out.ext x1)
                      clear x1
                      by_cases hab : y50 = y51
                      · have R10s : Hid (kM.rd w37 (.agg #[.slice A10 n10 c10, .slice A10' n10' c10']) d5) := by have := R10.out; rw [HS2.out hab] at this; exact this
                        have bb : (y50 != y51) = false := by simp [hab]
                        clear hab
                        have q10 := P10.out.cell; have q5 := P5.out.cell
                        go_wp2_with fail
                        clear q10 q5
                        refine (l.qMarks_same w37 (.agg #[.slice A10 n10 c10, .slice A10' n10' c10']) (.agg #[.slice A5 n5 c5, .slice A5' n5' c5']) d5 R10s.out R5.out K5.out).mono ?_
                        rintro e wD ⟨rfl, x1⟩
                        replace X := hide (X.out.trans x1)
                        clear x1
                        go_wp2_with fail
                        go_ret
                        exact ⟨rfl, X.out⟩
                      · have bb : (y50 != y51) = true := by simp [hab]
                        clear hab
                        go_wp2_with fail
                        go_ret
                        exact ⟨rfl, X.out⟩
end Go.Proofs.Ytifdpmpconjhmaa
