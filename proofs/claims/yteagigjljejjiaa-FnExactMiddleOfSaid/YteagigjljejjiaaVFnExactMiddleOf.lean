/- The walk of FnExactMiddleOf. -/
import Derived.Test.YteagigjljejjiaaTK
namespace Go.Proofs.Yteagigjljejjiaa
open Go.RowKit
set_option linter.unusedVariables false
set_option maxHeartbeats 1600000 in
set_option maxRecDepth 100000 in
theorem FnExactMiddleOf_walk (a0 : Option Addr) (n0 c0 : Nat) (z0 : List Int) (w : World) (h0 : ArgI w a0 n0 c0 z0) :
    Calls Try.prog 13 #[.slice a0 n0 c0] w fun e w' => e = .returned (.bool true) ∧ Ext w w' := by
  by_cases big0 : 1048576 < n0
  · have q1 := h0.cap; have q2 := h0.capm
    go_enter Try.func13, Try.ntmps13
    go_wp2
    go_ret
    exact ⟨rfl, Ext.refl _⟩
  have ok0 : kI.ok z0 := (by have := h0.sl.len; show z0.length ≤ 1048576; omega)
  have hl0 := h0.sl.len; subst hl0
  have R0 := hide (show kI.rd w (.slice a0 z0.length c0) z0 from ⟨a0, c0, rfl, h0.sl, h0.cap, h0.capm⟩)
  have bq0 : z0.length ≤ 1048576 := ok0
  clear big0 h0
  go_enter Try.func13, Try.ntmps13
  go_wp2_with fail
  have X := hide (Ext.refl w)
  refine (kI.to _ _ z0 R0.out ok0).mono ?_
  rintro e w1 ⟨u1, rfl, o1, x1⟩
  have sz1 := x1.size
  replace R0 := hide (kI.rd_ext R0.out x1)
  replace X := hide (X.out.trans x1)
  have T1 := hide o1; clear o1 x1
  go_wp2_with fail
  refine (s.MiddleOf_law _ _ z0 (kI.fr_rd T1.out) ok0 ).mono ?_
  rintro e w2 ⟨rfl, x1⟩
  have sz2 := x1.size
  replace R0 := hide (kI.rd_ext R0.out x1)
  replace X := hide (X.out.trans x1)
  clear x1
  go_wp2_with fail
  refine (kI.to _ _ z0 R0.out ok0).mono ?_
  rintro e w3 ⟨u3, rfl, o1, x1⟩
  have sz3 := x1.size
  replace R0 := hide (kI.rd_ext R0.out x1)
  replace X := hide (X.out.trans x1)
  have T3 := hide o1; clear o1 x1
  go_wp2_with fail
  refine (i.MiddleOf_law _ _ z0 (kI.fr_rd T3.out) ok0 ).mono ?_
  rintro e w4 ⟨rfl, x1⟩
  have sz4 := x1.size
  replace T3 := hide (kI.fr_ext T3.out x1)
  replace R0 := hide (kI.rd_ext R0.out x1)
  replace X := hide (X.out.trans x1)
  clear x1
  go_wp2_with fail
  refine (kI.to _ _ z0 R0.out ok0).mono ?_
  rintro e w5 ⟨u5, rfl, o1, x1⟩
  have sz5 := x1.size
  replace T3 := hide (kI.fr_ext T3.out x1)
  replace R0 := hide (kI.rd_ext R0.out x1)
  replace X := hide (X.out.trans x1)
  have T5 := hide o1; clear o1 x1
  go_wp2_with fail
  refine (kI.eq _ _ _ _ (kI.fr_rd T3.out) (kI.fr_rd T5.out) ok0).mono ?_
  rintro e w6 ⟨rfl, x1⟩
  have sz6 := x1.size
  clear T5
  replace T3 := hide (kI.fr_ext T3.out x1)
  replace R0 := hide (kI.rd_ext R0.out x1)
  replace X := hide (X.out.trans x1)
  clear x1
  go_wp2_with fail
  go_ret
  exact ⟨rfl, X.out⟩

end Go.Proofs.Yteagigjljejjiaa
