/- The walk of FnExactNewSheet. -/
import Derived.Test.YtmckompikbechaaSC
import Derived.Test.YtmckompikbechaaGR
import Derived.Deep.RegionHeld3
namespace Go.Proofs.Ytmckompikbechaa
open Go.RowKit Go.Sort
set_option linter.unusedVariables false
set_option maxHeartbeats 1600000 in
set_option maxRecDepth 100000 in
theorem FnExactNewSheet_walk (v0 : Value) (z0 : (List ItD)) (w : World) (h0 : kIt.rd w v0 z0) :
    Calls Try.prog 3 #[v0] w fun e w' => e = .returned (.bool true) ∧ Ext w w' := by
  have R0 := hide h0; clear h0
  have RR0 := R0
  have X := hide (Ext.refl w)
  have RR0 := R0
  replace R0 := hide (kIt.rd_ext R0.out X.out)
  go_enter Try.func3, Try.ntmps3
  go_wp2_with fail
  refine (kIt.sz _ _ z0 R0.out).mono ?_
  rintro e wz ⟨rfl, x1⟩
  have szz0 := x1.size
  replace R0 := hide (kIt.rd_ext R0.out x1)
  replace X := hide (X.out.trans x1)
  clear x1
  by_cases big : 1048576 < kIt.wt z0
  · rw [if_neg (by omega)]
    go_wp2_with fail
    go_ret
    exact ⟨rfl, X.out⟩
  have ok0 : kIt.ok z0 := kIt.ok_of (by omega)
  obtain ⟨m0, hm, hm00⟩ : ∃ m : Nat, Hid ((1048576 : Int) - (kIt.wt z0 : Nat) = (m : Int)) ∧ m ≤ 1048576 := ⟨1048576 - kIt.wt z0, by show _ = _; omega, by omega⟩
  rw [if_pos (by omega), hm.out]
  clear big hm
  go_wp2_with fail
  refine (kIt.to _ _ z0 R0.out ok0).mono ?_
  rintro e w1 ⟨u1, rfl, o1, x1⟩
  have sz1 := x1.size
  replace R0 := hide (kIt.rd_ext R0.out x1)
  replace X := hide (X.out.trans x1)
  have T1 := hide o1; clear o1 x1
  go_wp2_with fail
  refine (s.NewSheet_law _ _ z0 (kIt.fr_rd T1.out) ok0 ).mono ?_
  rintro e w2 ⟨v2_0, rfl, o0, q0, x1⟩
  obtain ⟨As2_0, ns2_0, cs2_0, As2_0', ns2_0', cs2_0', As2_0'', ns2_0'', cs2_0'', rfl⟩ := kSm.shape (kSm.fr_rd o0)
  have sz2 := x1.size
  replace R0 := hide (kIt.rd_ext R0.out x1)
  replace X := hide (X.out.trans x1)
  have G2_0 := hide o0; have K2_0 := hide q0; clear o0 q0
  have kc2_0 := kSm.ok_cnt K2_0.out
  clear x1
  go_wp2_with fail
  obtain ⟨Ws2_0, hWs2_0⟩ : ∃ W', Hid (W' = w2.alloc (.cells #[.slice As2_0 ns2_0 cs2_0, .slice As2_0' ns2_0' cs2_0', .slice As2_0'' ns2_0'' cs2_0''] 28)) := ⟨_, rfl⟩
  have x1 : Ext w2 Ws2_0 := by rw [hWs2_0.out]; exact Ext.alloc _ _
  replace G2_0 := hide (kSm.fr_ext G2_0.out x1)
  replace R0 := hide (kIt.rd_ext R0.out x1)
  replace X := hide (X.out.trans x1)
  have Ps2_0 : Hid (Blk Ws2_0 w2.heap.size #[.slice As2_0 ns2_0 cs2_0, .slice As2_0' ns2_0' cs2_0', .slice As2_0'' ns2_0'' cs2_0''] 28) := by rw [hWs2_0.out]; exact Blk.new rfl _ _
  have szPs2_0 := Ps2_0.out.lt
  rw [← hWs2_0.out]; clear hWs2_0 x1
  refine (kIt.to _ _ z0 R0.out ok0).mono ?_
  rintro e w3 ⟨u3, rfl, o1, x1⟩
  have sz3 := x1.size
  replace G2_0 := hide (kSm.fr_ext G2_0.out x1)
  replace R0 := hide (kIt.rd_ext R0.out x1)
  replace Ps2_0 := hide (Ps2_0.out.ext x1)
  replace X := hide (X.out.trans x1)
  have T3 := hide o1; clear o1 x1
  have qs2_0 := Ps2_0.out.cell
  go_wp2_with fail
  clear qs2_0
  refine (i.NewSheet_law _ _ z0 (kIt.fr_rd T3.out) ok0 ).mono ?_
  rintro e w4 ⟨v4_0, rfl, o0, q0, x1⟩
  obtain ⟨As4_0, ns4_0, cs4_0, As4_0', ns4_0', cs4_0', As4_0'', ns4_0'', cs4_0'', rfl⟩ := kSm.shape (kSm.fr_rd o0)
  have sz4 := x1.size
  replace G2_0 := hide (kSm.fr_ext G2_0.out x1)
  replace T3 := hide (kIt.fr_ext T3.out x1)
  replace R0 := hide (kIt.rd_ext R0.out x1)
  replace Ps2_0 := hide (Ps2_0.out.ext x1)
  replace X := hide (X.out.trans x1)
  have G4_0 := hide o0; have K4_0 := hide q0; clear o0 q0
  have kc4_0 := kSm.ok_cnt K4_0.out
  clear x1
  have qqs2_0 := (Ps2_0.out.alloc (.cells #[.slice As4_0 ns4_0 cs4_0, .slice As4_0' ns4_0' cs4_0', .slice As4_0'' ns4_0'' cs4_0''] 28)).cell
  have qs2_0 := Ps2_0.out.cell
  go_wp2_with fail
  clear qs2_0
  clear qqs2_0
  obtain ⟨Ws4_0, hWs4_0⟩ : ∃ W', Hid (W' = w4.alloc (.cells #[.slice As4_0 ns4_0 cs4_0, .slice As4_0' ns4_0' cs4_0', .slice As4_0'' ns4_0'' cs4_0''] 28)) := ⟨_, rfl⟩
  have x1 : Ext w4 Ws4_0 := by rw [hWs4_0.out]; exact Ext.alloc _ _
  replace G2_0 := hide (kSm.fr_ext G2_0.out x1)
  replace T3 := hide (kIt.fr_ext T3.out x1)
  replace G4_0 := hide (kSm.fr_ext G4_0.out x1)
  replace R0 := hide (kIt.rd_ext R0.out x1)
  replace Ps2_0 := hide (Ps2_0.out.ext x1)
  replace X := hide (X.out.trans x1)
  have Ps4_0 : Hid (Blk Ws4_0 w4.heap.size #[.slice As4_0 ns4_0 cs4_0, .slice As4_0' ns4_0' cs4_0', .slice As4_0'' ns4_0'' cs4_0''] 28) := by rw [hWs4_0.out]; exact Blk.new rfl _ _
  have szPs4_0 := Ps4_0.out.lt
  rw [← hWs4_0.out]; clear hWs4_0 x1
  refine (kSm.eq _ _ _ _ (kSm.fr_rd G4_0.out) (kSm.fr_rd G2_0.out) K2_0.out).mono ?_
  rintro e w5 ⟨rfl, x1⟩
  have sz5 := x1.size
  replace G2_0 := hide (kSm.fr_ext G2_0.out x1)
  replace T3 := hide (kIt.fr_ext T3.out x1)
  replace G4_0 := hide (kSm.fr_ext G4_0.out x1)
  replace R0 := hide (kIt.rd_ext R0.out x1)
  replace Ps2_0 := hide (Ps2_0.out.ext x1)
  replace Ps4_0 := hide (Ps4_0.out.ext x1)
  replace X := hide (X.out.trans x1)
  clear x1
  have qs2_0 := Ps2_0.out.cell
  have qs4_0 := Ps4_0.out.cell
  go_wp2_with fail
  clear qs2_0 qs4_0
  refine (kIt.to _ _ z0 R0.out ok0).mono ?_
  rintro e w6 ⟨u6, rfl, o1, x1⟩
  have sz6 := x1.size
  replace G2_0 := hide (kSm.fr_ext G2_0.out x1)
  replace T3 := hide (kIt.fr_ext T3.out x1)
  replace G4_0 := hide (kSm.fr_ext G4_0.out x1)
  replace R0 := hide (kIt.rd_ext R0.out x1)
  replace Ps2_0 := hide (Ps2_0.out.ext x1)
  replace Ps4_0 := hide (Ps4_0.out.ext x1)
  replace X := hide (X.out.trans x1)
  have T6 := hide o1; clear o1 x1
  have qs2_0 := Ps2_0.out.cell
  have qs4_0 := Ps4_0.out.cell
  go_wp2_with fail
  clear qs2_0 qs4_0
  refine (kIt.eq _ _ _ _ (kIt.fr_rd T3.out) (kIt.fr_rd T6.out) ok0).mono ?_
  rintro e w7 ⟨rfl, x1⟩
  have sz7 := x1.size
  clear T6
  replace G2_0 := hide (kSm.fr_ext G2_0.out x1)
  replace T3 := hide (kIt.fr_ext T3.out x1)
  replace G4_0 := hide (kSm.fr_ext G4_0.out x1)
  replace R0 := hide (kIt.rd_ext R0.out x1)
  replace Ps2_0 := hide (Ps2_0.out.ext x1)
  replace Ps4_0 := hide (Ps4_0.out.ext x1)
  replace X := hide (X.out.trans x1)
  clear x1
  have qs2_0 := Ps2_0.out.cell
  have qs4_0 := Ps4_0.out.cell
  go_wp2_with fail
  clear qs2_0 qs4_0
  have kx8 := kIt.ok_cnt ok0
  refine (kIt.mark _ _ _ _ z0 _ T3.out ok0 (by omega) (by omega)).mono ?_
  rintro e w8 ⟨rfl, o1, t1⟩
  have sz8 := t1.size
  replace G2_0 := hide (kSm.fr_tch G2_0.out t1 (by omega))
  replace G4_0 := hide (kSm.fr_tch G4_0.out t1 (by omega))
  replace Ps2_0 := hide (Ps2_0.out.tch t1 (by omega))
  replace Ps4_0 := hide (Ps4_0.out.tch t1 (by omega))
  replace R0 := hide (kIt.rd_ext RR0.out (X.out.tch t1 (by omega)))
  replace X := hide (X.out.tch t1 (by omega))
  have T3m := hide o1; clear o1 t1 T3
  have qs2_0 := Ps2_0.out.cell
  have qs4_0 := Ps4_0.out.cell
  go_wp2_with fail
  clear qs2_0 qs4_0
  refine (kSm.eq _ _ _ _ (kSm.fr_rd G4_0.out) (kSm.fr_rd G2_0.out) K2_0.out).mono ?_
  rintro e w9 ⟨rfl, x1⟩
  have sz9 := x1.size
  replace G2_0 := hide (kSm.fr_ext G2_0.out x1)
  replace T3m := hide (kIt.fr_ext T3m.out x1)
  replace G4_0 := hide (kSm.fr_ext G4_0.out x1)
  replace R0 := hide (kIt.rd_ext R0.out x1)
  replace Ps2_0 := hide (Ps2_0.out.ext x1)
  replace Ps4_0 := hide (Ps4_0.out.ext x1)
  replace X := hide (X.out.trans x1)
  clear x1
  have qs2_0 := Ps2_0.out.cell
  have qs4_0 := Ps4_0.out.cell
  go_wp2_with fail
  clear qs2_0 qs4_0
  have kx10 := kSm.ok_cnt K4_0.out
  refine (kSm.mark _ _ _ _ (newF z0).1 _ G4_0.out K4_0.out (by omega) (by omega)).mono ?_
  rintro e w10 ⟨rfl, o1, t1⟩
  have sz10 := t1.size
  replace G2_0 := hide (kSm.fr_tch G2_0.out t1 (by omega))
  replace T3m := hide (kIt.fr_tch T3m.out t1 (by omega))
  replace Ps2_0 := hide (Ps2_0.out.tch t1 (by omega))
  replace Ps4_0 := hide (Ps4_0.out.tch t1 (by omega))
  replace R0 := hide (kIt.rd_ext RR0.out (X.out.tch t1 (by omega)))
  replace X := hide (X.out.tch t1 (by omega))
  have G4_0m := hide o1; clear o1 t1 G4_0
  have qs2_0 := Ps2_0.out.cell
  have qs4_0 := Ps4_0.out.cell
  go_wp2_with fail
  clear qs2_0 qs4_0
  refine (kSm.held _ _ (newF z0).1 _ (kSm.fr_rd G4_0m.out) K4_0.out (by omega) (by omega)).mono ?_
  rintro e w11 ⟨rfl, x1⟩
  have sz11 := x1.size
  replace G2_0 := hide (kSm.fr_ext G2_0.out x1)
  replace T3m := hide (kIt.fr_ext T3m.out x1)
  replace G4_0m := hide (kSm.fr_ext G4_0m.out x1)
  replace R0 := hide (kIt.rd_ext R0.out x1)
  replace Ps2_0 := hide (Ps2_0.out.ext x1)
  replace Ps4_0 := hide (Ps4_0.out.ext x1)
  replace X := hide (X.out.trans x1)
  clear x1
  have qs2_0 := Ps2_0.out.cell
  have qs4_0 := Ps4_0.out.cell
  go_wp2_with fail
  clear qs2_0 qs4_0
  refine (kIt.to _ _ z0 R0.out ok0).mono ?_
  rintro e w12 ⟨u12, rfl, o1, x1⟩
  have sz12 := x1.size
  replace G2_0 := hide (kSm.fr_ext G2_0.out x1)
  replace T3m := hide (kIt.fr_ext T3m.out x1)
  replace G4_0m := hide (kSm.fr_ext G4_0m.out x1)
  replace R0 := hide (kIt.rd_ext R0.out x1)
  replace Ps2_0 := hide (Ps2_0.out.ext x1)
  replace Ps4_0 := hide (Ps4_0.out.ext x1)
  replace X := hide (X.out.trans x1)
  have T12 := hide o1; clear o1 x1
  have qs2_0 := Ps2_0.out.cell
  have qs4_0 := Ps4_0.out.cell
  go_wp2_with fail
  clear qs2_0 qs4_0
  refine (i.NewSheet_law _ _ z0 (kIt.fr_rd T12.out) ok0 ).mono ?_
  rintro e w13 ⟨v13_0, rfl, o0, q0, x1⟩
  obtain ⟨As13_0, ns13_0, cs13_0, As13_0', ns13_0', cs13_0', As13_0'', ns13_0'', cs13_0'', rfl⟩ := kSm.shape (kSm.fr_rd o0)
  have sz13 := x1.size
  replace G2_0 := hide (kSm.fr_ext G2_0.out x1)
  replace T3m := hide (kIt.fr_ext T3m.out x1)
  replace G4_0m := hide (kSm.fr_ext G4_0m.out x1)
  replace R0 := hide (kIt.rd_ext R0.out x1)
  replace Ps2_0 := hide (Ps2_0.out.ext x1)
  replace Ps4_0 := hide (Ps4_0.out.ext x1)
  replace X := hide (X.out.trans x1)
  have G13_0 := hide o0; have K13_0 := hide q0; clear o0 q0
  have kc13_0 := kSm.ok_cnt K13_0.out
  clear x1
  have qqs2_0 := (Ps2_0.out.alloc (.cells #[.slice As13_0 ns13_0 cs13_0, .slice As13_0' ns13_0' cs13_0', .slice As13_0'' ns13_0'' cs13_0''] 28)).cell
  have qqs4_0 := (Ps4_0.out.alloc (.cells #[.slice As13_0 ns13_0 cs13_0, .slice As13_0' ns13_0' cs13_0', .slice As13_0'' ns13_0'' cs13_0''] 28)).cell
  have qs2_0 := Ps2_0.out.cell
  have qs4_0 := Ps4_0.out.cell
  go_wp2_with fail
  clear qs2_0 qs4_0
  clear qqs2_0 qqs4_0
  obtain ⟨Ws13_0, hWs13_0⟩ : ∃ W', Hid (W' = w13.alloc (.cells #[.slice As13_0 ns13_0 cs13_0, .slice As13_0' ns13_0' cs13_0', .slice As13_0'' ns13_0'' cs13_0''] 28)) := ⟨_, rfl⟩
  have x1 : Ext w13 Ws13_0 := by rw [hWs13_0.out]; exact Ext.alloc _ _
  replace G2_0 := hide (kSm.fr_ext G2_0.out x1)
  replace T3m := hide (kIt.fr_ext T3m.out x1)
  replace G4_0m := hide (kSm.fr_ext G4_0m.out x1)
  replace G13_0 := hide (kSm.fr_ext G13_0.out x1)
  replace R0 := hide (kIt.rd_ext R0.out x1)
  replace Ps2_0 := hide (Ps2_0.out.ext x1)
  replace Ps4_0 := hide (Ps4_0.out.ext x1)
  replace X := hide (X.out.trans x1)
  have Ps13_0 : Hid (Blk Ws13_0 w13.heap.size #[.slice As13_0 ns13_0 cs13_0, .slice As13_0' ns13_0' cs13_0', .slice As13_0'' ns13_0'' cs13_0''] 28) := by rw [hWs13_0.out]; exact Blk.new rfl _ _
  have szPs13_0 := Ps13_0.out.lt
  rw [← hWs13_0.out]; clear hWs13_0 x1
  refine (kSm.eq _ _ _ _ (kSm.fr_rd G13_0.out) (kSm.fr_rd G2_0.out) K2_0.out).mono ?_
  rintro e w14 ⟨rfl, x1⟩
  have sz14 := x1.size
  replace G2_0 := hide (kSm.fr_ext G2_0.out x1)
  replace T3m := hide (kIt.fr_ext T3m.out x1)
  replace G4_0m := hide (kSm.fr_ext G4_0m.out x1)
  replace G13_0 := hide (kSm.fr_ext G13_0.out x1)
  replace R0 := hide (kIt.rd_ext R0.out x1)
  replace Ps2_0 := hide (Ps2_0.out.ext x1)
  replace Ps4_0 := hide (Ps4_0.out.ext x1)
  replace Ps13_0 := hide (Ps13_0.out.ext x1)
  replace X := hide (X.out.trans x1)
  clear x1
  have qs2_0 := Ps2_0.out.cell
  have qs4_0 := Ps4_0.out.cell
  have qs13_0 := Ps13_0.out.cell
  go_wp2_with fail
  clear qs2_0 qs4_0 qs13_0
  refine (kSm.held _ _ (newF z0).1 _ (kSm.fr_rd G4_0m.out) K4_0.out (by omega) (by omega)).mono ?_
  rintro e w15 ⟨rfl, x1⟩
  have sz15 := x1.size
  replace G2_0 := hide (kSm.fr_ext G2_0.out x1)
  replace T3m := hide (kIt.fr_ext T3m.out x1)
  replace G4_0m := hide (kSm.fr_ext G4_0m.out x1)
  replace G13_0 := hide (kSm.fr_ext G13_0.out x1)
  replace R0 := hide (kIt.rd_ext R0.out x1)
  replace Ps2_0 := hide (Ps2_0.out.ext x1)
  replace Ps4_0 := hide (Ps4_0.out.ext x1)
  replace Ps13_0 := hide (Ps13_0.out.ext x1)
  replace X := hide (X.out.trans x1)
  clear x1
  have qs2_0 := Ps2_0.out.cell
  have qs4_0 := Ps4_0.out.cell
  have qs13_0 := Ps13_0.out.cell
  go_wp2_with fail
  clear qs2_0 qs4_0 qs13_0
  go_ret
  exact ⟨rfl, X.out⟩

end Go.Proofs.Ytmckompikbechaa
