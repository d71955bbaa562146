/- The walk of FnExactWithoutMark. -/
import Derived.Test.YteagigjljejjiaaTH
namespace Go.Proofs.Yteagigjljejjiaa
open Go.RowKit
set_option linter.unusedVariables false
set_option maxHeartbeats 1600000 in
set_option maxRecDepth 100000 in
theorem FnExactWithoutMark_walk (a0 : Option Addr) (n0 c0 : Nat) (z0 : List Int) (z1 : Int) (w : World) (h0 : ArgI w a0 n0 c0 z0) (h1 : InR z1) :
    Calls Try.prog 5 #[.slice a0 n0 c0, .int .i64 z1] w fun e w' => e = .returned (.bool true) ∧ Ext w w' := by
  by_cases big0 : 1048576 < n0
  · have q1 := h0.cap; have q2 := h0.capm
    go_enter Try.func5, Try.ntmps5
    go_wp2
    go_ret
    exact ⟨rfl, Ext.refl _⟩
  have ok0 : kI.ok z0 := (by have := h0.sl.len; show z0.length ≤ 1048576; omega)
  have hl0 := h0.sl.len; subst hl0
  have R0 := hide (show kI.rd w (.slice a0 z0.length c0) z0 from ⟨a0, c0, rfl, h0.sl, h0.cap, h0.capm⟩)
  have bq0 : z0.length ≤ 1048576 := ok0
  clear big0 h0
  go_enter Try.func5, Try.ntmps5
  go_wp2_with fail
  have RR0 := R0
  have X := hide (Ext.refl w)
  refine (kI.to _ _ z0 R0.out ok0).mono ?_
  rintro e w1 ⟨u1, rfl, o1, x1⟩
  have sz1 := x1.size
  replace R0 := hide (kI.rd_ext R0.out x1)
  replace X := hide (X.out.trans x1)
  have T1 := hide o1; clear o1 x1
  go_wp2_with fail
  refine (s.WithoutMark_law _ _ z0 z1 (kI.fr_rd T1.out) ok0 h1).mono ?_
  rintro e w2 ⟨v2_0, rfl, o0, q0, x1⟩
  have sz2 := x1.size
  replace R0 := hide (kI.rd_ext R0.out x1)
  replace X := hide (X.out.trans x1)
  have G2_0 := hide o0; have K2_0 := hide q0; clear o0 q0
  clear x1
  go_wp2_with fail
  refine (kI.to _ _ z0 R0.out ok0).mono ?_
  rintro e w3 ⟨u3, rfl, o1, x1⟩
  have sz3 := x1.size
  replace G2_0 := hide (kI.fr_ext G2_0.out x1)
  replace R0 := hide (kI.rd_ext R0.out x1)
  replace X := hide (X.out.trans x1)
  have T3 := hide o1; clear o1 x1
  go_wp2_with fail
  refine (i.WithoutMark_law _ _ z0 z1 (kI.fr_rd T3.out) ok0 h1).mono ?_
  rintro e w4 ⟨v4_0, rfl, o0, q0, x1⟩
  have sz4 := x1.size
  replace G2_0 := hide (kI.fr_ext G2_0.out x1)
  replace T3 := hide (kI.fr_ext T3.out x1)
  replace R0 := hide (kI.rd_ext R0.out x1)
  replace X := hide (X.out.trans x1)
  have G4_0 := hide o0; have K4_0 := hide q0; clear o0 q0
  clear x1
  go_wp2_with fail
  refine (kI.eq _ _ _ _ (kI.fr_rd G4_0.out) (kI.fr_rd G2_0.out) K2_0.out).mono ?_
  rintro e w5 ⟨rfl, x1⟩
  have sz5 := x1.size
  replace G2_0 := hide (kI.fr_ext G2_0.out x1)
  replace T3 := hide (kI.fr_ext T3.out x1)
  replace G4_0 := hide (kI.fr_ext G4_0.out x1)
  replace R0 := hide (kI.rd_ext R0.out x1)
  replace X := hide (X.out.trans x1)
  clear x1
  go_wp2_with fail
  refine (kI.to _ _ z0 R0.out ok0).mono ?_
  rintro e w6 ⟨u6, rfl, o1, x1⟩
  have sz6 := x1.size
  replace G2_0 := hide (kI.fr_ext G2_0.out x1)
  replace T3 := hide (kI.fr_ext T3.out x1)
  replace G4_0 := hide (kI.fr_ext G4_0.out x1)
  replace R0 := hide (kI.rd_ext R0.out x1)
  replace X := hide (X.out.trans x1)
  have T6 := hide o1; clear o1 x1
  go_wp2_with fail
  refine (kI.eq _ _ _ _ (kI.fr_rd T3.out) (kI.fr_rd T6.out) ok0).mono ?_
  rintro e w7 ⟨rfl, x1⟩
  have sz7 := x1.size
  clear T6
  replace G2_0 := hide (kI.fr_ext G2_0.out x1)
  replace T3 := hide (kI.fr_ext T3.out x1)
  replace G4_0 := hide (kI.fr_ext G4_0.out x1)
  replace R0 := hide (kI.rd_ext R0.out x1)
  replace X := hide (X.out.trans x1)
  clear x1
  go_wp2_with fail
  refine (kI.mark _ _ _ _ z0 _ T3.out ok0 (by omega) (by omega)).mono ?_
  rintro e w8 ⟨rfl, o1, t1⟩
  have sz8 := t1.size
  replace G2_0 := hide (kI.fr_tch G2_0.out t1 (by omega))
  replace G4_0 := hide (kI.fr_tch G4_0.out t1 (by omega))
  replace R0 := hide (kI.rd_ext RR0.out (X.out.tch t1 (by omega)))
  replace X := hide (X.out.tch t1 (by omega))
  have T3m := hide o1; clear o1 t1 T3
  go_wp2_with fail
  refine (kI.eq _ _ _ _ (kI.fr_rd G4_0.out) (kI.fr_rd G2_0.out) K2_0.out).mono ?_
  rintro e w9 ⟨rfl, x1⟩
  have sz9 := x1.size
  replace G2_0 := hide (kI.fr_ext G2_0.out x1)
  replace T3m := hide (kI.fr_ext T3m.out x1)
  replace G4_0 := hide (kI.fr_ext G4_0.out x1)
  replace R0 := hide (kI.rd_ext R0.out x1)
  replace X := hide (X.out.trans x1)
  clear x1
  go_wp2_with fail
  refine (kI.mark _ _ _ _ (withoutMarkF z0 z1).1 _ G4_0.out K4_0.out (by omega) (by omega)).mono ?_
  rintro e w10 ⟨rfl, o1, t1⟩
  have sz10 := t1.size
  replace G2_0 := hide (kI.fr_tch G2_0.out t1 (by omega))
  replace T3m := hide (kI.fr_tch T3m.out t1 (by omega))
  replace R0 := hide (kI.rd_ext RR0.out (X.out.tch t1 (by omega)))
  replace X := hide (X.out.tch t1 (by omega))
  have G4_0m := hide o1; clear o1 t1 G4_0
  go_wp2_with fail
  refine (kI.held _ _ (withoutMarkF z0 z1).1 _ (kI.fr_rd G4_0m.out) K4_0.out (by omega) (by omega)).mono ?_
  rintro e w11 ⟨rfl, x1⟩
  have sz11 := x1.size
  replace G2_0 := hide (kI.fr_ext G2_0.out x1)
  replace T3m := hide (kI.fr_ext T3m.out x1)
  replace G4_0m := hide (kI.fr_ext G4_0m.out x1)
  replace R0 := hide (kI.rd_ext R0.out x1)
  replace X := hide (X.out.trans x1)
  clear x1
  go_wp2_with fail
  refine (kI.to _ _ z0 R0.out ok0).mono ?_
  rintro e w12 ⟨u12, rfl, o1, x1⟩
  have sz12 := x1.size
  replace G2_0 := hide (kI.fr_ext G2_0.out x1)
  replace T3m := hide (kI.fr_ext T3m.out x1)
  replace G4_0m := hide (kI.fr_ext G4_0m.out x1)
  replace R0 := hide (kI.rd_ext R0.out x1)
  replace X := hide (X.out.trans x1)
  have T12 := hide o1; clear o1 x1
  go_wp2_with fail
  refine (i.WithoutMark_law _ _ z0 z1 (kI.fr_rd T12.out) ok0 h1).mono ?_
  rintro e w13 ⟨v13_0, rfl, o0, q0, x1⟩
  have sz13 := x1.size
  replace G2_0 := hide (kI.fr_ext G2_0.out x1)
  replace T3m := hide (kI.fr_ext T3m.out x1)
  replace G4_0m := hide (kI.fr_ext G4_0m.out x1)
  replace R0 := hide (kI.rd_ext R0.out x1)
  replace X := hide (X.out.trans x1)
  have G13_0 := hide o0; have K13_0 := hide q0; clear o0 q0
  clear x1
  go_wp2_with fail
  refine (kI.eq _ _ _ _ (kI.fr_rd G13_0.out) (kI.fr_rd G2_0.out) K2_0.out).mono ?_
  rintro e w14 ⟨rfl, x1⟩
  have sz14 := x1.size
  replace G2_0 := hide (kI.fr_ext G2_0.out x1)
  replace T3m := hide (kI.fr_ext T3m.out x1)
  replace G4_0m := hide (kI.fr_ext G4_0m.out x1)
  replace G13_0 := hide (kI.fr_ext G13_0.out x1)
  replace R0 := hide (kI.rd_ext R0.out x1)
  replace X := hide (X.out.trans x1)
  clear x1
  go_wp2_with fail
  refine (kI.held _ _ (withoutMarkF z0 z1).1 _ (kI.fr_rd G4_0m.out) K4_0.out (by omega) (by omega)).mono ?_
  rintro e w15 ⟨rfl, x1⟩
  have sz15 := x1.size
  replace G2_0 := hide (kI.fr_ext G2_0.out x1)
  replace T3m := hide (kI.fr_ext T3m.out x1)
  replace G4_0m := hide (kI.fr_ext G4_0m.out x1)
  replace G13_0 := hide (kI.fr_ext G13_0.out x1)
  replace R0 := hide (kI.rd_ext R0.out x1)
  replace X := hide (X.out.trans x1)
  clear x1
  go_wp2_with fail
  go_ret
  exact ⟨rfl, X.out⟩

end Go.Proofs.Yteagigjljejjiaa
