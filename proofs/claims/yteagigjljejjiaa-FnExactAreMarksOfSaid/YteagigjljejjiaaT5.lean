import Derived.Test.YteagigjljejjiaaT4
namespace Go.Proofs.Yteagigjljejjiaa
open Go.RowKit

set_option maxHeartbeats 400000 in
theorem FnExactAreMarksOf_walk (a0 : Option Addr) (n0 c0 : Nat) (z0 : List Int) (w : World) (h0 : ArgI w a0 n0 c0 z0) :
    Calls Try.prog 3 #[.slice a0 n0 c0] w fun e w' => e = .returned (.bool true) ∧ Ext w w' := by
  by_cases hbig : 1048576 < n0
  · have := h0.cap
    have := h0.capm
    go_enter Try.func3, Try.ntmps3
    go_wp2
    go_ret
    exact ⟨rfl, Ext.refl _⟩
  · have hn : n0 ≤ 1048576 := by omega
    have hs := hide h0.sl
    clear h0
    go_enter Try.func3, Try.ntmps3
    go_wp2_with fail
    refine (l.toIntS_any _ _ _ _ z0 _ hs.out (Nat.le_refl _) hn).mono ?_
    rintro e w1 ⟨A1, c1, rfl, o1, x1⟩
    have O1 := hide o1.fr; have X1 := hide x1; clear o1 x1
    go_wp2_with fail
    refine (s.AreMarksOf_any _ _ _ _ z0 _ O1.out.sl hn).mono ?_
    rintro e w2 ⟨rfl, rfl⟩
    go_wp2_with fail
    refine (l.toIntS_any _ _ _ _ z0 _ (hs.out.ext X1.out (Nat.le_refl _)) X1.out.size hn).mono ?_
    rintro e w2 ⟨A2, c2, rfl, o2, x2⟩
    have O2 := hide o2.fr; have X2 := hide (X1.out.trans x2); clear o2 x2 O1
    go_wp2_with fail
    refine (i.AreMarksOf_any _ _ _ _ z0 _ O2.out.sl hn).mono ?_
    rintro e w3 ⟨rfl, rfl⟩
    have hne : (goodMarks z0 != goodMarks z0) = false := by simp
    go_wp2_with fail
    refine (l.toIntS_any _ _ _ _ z0 _ (hs.out.ext X2.out (Nat.le_refl _)) X2.out.size hn).mono ?_
    rintro e w3 ⟨A3, c3, rfl, o3, x3⟩
    have O3 := hide o3.fr; have X3 := hide (X2.out.trans x3); have O2' := hide (O2.out.ext x3); clear o3 x3 O2
    go_wp2_with fail
    refine (l.eqIntS_ext _ _ _ _ _ _ _ z0 _ O2'.out.sl O3.out.sl hn).mono ?_
    rintro e w4 ⟨rfl, x4⟩
    have X4 := hide (X3.out.trans x4); clear x4
    go_wp2_with fail
    go_ret
    exact ⟨rfl, X4.out⟩

end Go.Proofs.Yteagigjljejjiaa
