/- The walk of FnExactParseMarks. -/
import Derived.Test.YtnokilofcdbjhaaDoorXS
import Derived.Deep.RegionHeld3
namespace Go.Proofs.YtnokilofcdbjhaaDoor
open Go.RowKit Go.Sort
set_option linter.unusedVariables false
set_option maxHeartbeats 1600000 in
set_option maxRecDepth 100000 in
theorem FnExactParseMarks_walk (z0 : List UInt8) (w : World) (h0 : z0.length ≤ maxLen) (hm : MaxLenIs w) :
    Calls Tryd.prog 4 #[.string (bs z0)] w fun e w' => e = .returned (.bool true) ∧ Ext w w' := by
  unfold maxLen at h0
  have HM := hide hm; clear hm
  have bz0 : (bs z0).size = z0.length := bsz z0
  by_cases big0 : 1048576 < z0.length
  · go_enter Tryd.func4, Tryd.ntmps4
    go_wp2
    go_ret
    exact ⟨rfl, Ext.refl _⟩
  replace h0 : z0.length ≤ 1048576 := by omega
  go_enter Tryd.func4, Tryd.ntmps4
  go_wp2_with fail
  have X := hide (Ext.refl w)
  refine (s.ParseMarks_m z0 _ h0).mono ?_
  rintro e w1 ⟨v1_0, rfl, o0, q0, x1⟩
  obtain ⟨As1_0, ns1_0, cs1_0, As1_0', ns1_0', cs1_0', rfl⟩ := kM.shape (kM.fr_rd o0)
  have sz1 := x1.size
  replace X := hide (X.out.trans x1)
  have G1_0 := hide o0; have K1_0 := hide q0; clear o0 q0
  have kc1_0 := kM.ok_cnt K1_0.out
  clear x1
  go_wp2_with fail
  obtain ⟨Ws1_0, hWs1_0⟩ : ∃ W', Hid (W' = w1.alloc (.cells #[.slice As1_0 ns1_0 cs1_0, .slice As1_0' ns1_0' cs1_0'] 28)) := ⟨_, rfl⟩
  have x1 : Ext w1 Ws1_0 := by rw [hWs1_0.out]; exact Ext.alloc _ _
  replace G1_0 := hide (kM.fr_ext G1_0.out x1)
  replace X := hide (X.out.trans x1)
  have Ps1_0 : Hid (Blk Ws1_0 w1.heap.size #[.slice As1_0 ns1_0 cs1_0, .slice As1_0' ns1_0' cs1_0'] 28) := by rw [hWs1_0.out]; exact Blk.new rfl _ _
  have szPs1_0 := Ps1_0.out.lt
  rw [← hWs1_0.out]; clear hWs1_0 x1
  refine (i.ParseMarks_m z0 _ h0 (HM.out.ext X.out)).mono ?_
  rintro e w2 ⟨v2_0, rfl, o0, q0, x1⟩
  obtain ⟨As2_0, ns2_0, cs2_0, As2_0', ns2_0', cs2_0', rfl⟩ := kM.shape (kM.fr_rd o0)
  have sz2 := x1.size
  replace G1_0 := hide (kM.fr_ext G1_0.out x1)
  replace Ps1_0 := hide (Ps1_0.out.ext x1)
  replace X := hide (X.out.trans x1)
  have G2_0 := hide o0; have K2_0 := hide q0; clear o0 q0
  have kc2_0 := kM.ok_cnt K2_0.out
  clear x1
  have qqs1_0 := (Ps1_0.out.alloc (.cells #[.slice As2_0 ns2_0 cs2_0, .slice As2_0' ns2_0' cs2_0'] 28)).cell
  have qs1_0 := Ps1_0.out.cell
  go_wp2_with fail
  clear qs1_0
  clear qqs1_0
  obtain ⟨Ws2_0, hWs2_0⟩ : ∃ W', Hid (W' = w2.alloc (.cells #[.slice As2_0 ns2_0 cs2_0, .slice As2_0' ns2_0' cs2_0'] 28)) := ⟨_, rfl⟩
  have x1 : Ext w2 Ws2_0 := by rw [hWs2_0.out]; exact Ext.alloc _ _
  replace G1_0 := hide (kM.fr_ext G1_0.out x1)
  replace G2_0 := hide (kM.fr_ext G2_0.out x1)
  replace Ps1_0 := hide (Ps1_0.out.ext x1)
  replace X := hide (X.out.trans x1)
  have Ps2_0 : Hid (Blk Ws2_0 w2.heap.size #[.slice As2_0 ns2_0 cs2_0, .slice As2_0' ns2_0' cs2_0'] 28) := by rw [hWs2_0.out]; exact Blk.new rfl _ _
  have szPs2_0 := Ps2_0.out.lt
  rw [← hWs2_0.out]; clear hWs2_0 x1
  refine (kM.eq _ _ _ _ (kM.fr_rd G2_0.out) (kM.fr_rd G1_0.out) K1_0.out).mono ?_
  rintro e w3 ⟨rfl, x1⟩
  have sz3 := x1.size
  replace G1_0 := hide (kM.fr_ext G1_0.out x1)
  replace G2_0 := hide (kM.fr_ext G2_0.out x1)
  replace Ps1_0 := hide (Ps1_0.out.ext x1)
  replace Ps2_0 := hide (Ps2_0.out.ext x1)
  replace X := hide (X.out.trans x1)
  clear x1
  have qs1_0 := Ps1_0.out.cell
  have qs2_0 := Ps2_0.out.cell
  go_wp2_with fail
  clear qs1_0 qs2_0
  have kx4 := kM.ok_cnt K2_0.out
  refine (kM.mark _ _ _ _ (parseF z0).1 _ G2_0.out K2_0.out (by omega) (by omega)).mono ?_
  rintro e w4 ⟨rfl, o1, t1⟩
  have sz4 := t1.size
  replace G1_0 := hide (kM.fr_tch G1_0.out t1 (by omega))
  replace Ps1_0 := hide (Ps1_0.out.tch t1 (by omega))
  replace Ps2_0 := hide (Ps2_0.out.tch t1 (by omega))
  replace X := hide (X.out.tch t1 (by omega))
  have G2_0m := hide o1; clear o1 t1 G2_0
  have qs1_0 := Ps1_0.out.cell
  have qs2_0 := Ps2_0.out.cell
  go_wp2_with fail
  clear qs1_0 qs2_0
  refine (kM.held _ _ (parseF z0).1 _ (kM.fr_rd G2_0m.out) K2_0.out (by omega) (by omega)).mono ?_
  rintro e w5 ⟨rfl, x1⟩
  have sz5 := x1.size
  replace G1_0 := hide (kM.fr_ext G1_0.out x1)
  replace G2_0m := hide (kM.fr_ext G2_0m.out x1)
  replace Ps1_0 := hide (Ps1_0.out.ext x1)
  replace Ps2_0 := hide (Ps2_0.out.ext x1)
  replace X := hide (X.out.trans x1)
  clear x1
  have qs1_0 := Ps1_0.out.cell
  have qs2_0 := Ps2_0.out.cell
  go_wp2_with fail
  clear qs1_0 qs2_0
  refine (i.ParseMarks_m z0 _ h0 (HM.out.ext X.out)).mono ?_
  rintro e w6 ⟨v6_0, rfl, o0, q0, x1⟩
  obtain ⟨As6_0, ns6_0, cs6_0, As6_0', ns6_0', cs6_0', rfl⟩ := kM.shape (kM.fr_rd o0)
  have sz6 := x1.size
  replace G1_0 := hide (kM.fr_ext G1_0.out x1)
  replace G2_0m := hide (kM.fr_ext G2_0m.out x1)
  replace Ps1_0 := hide (Ps1_0.out.ext x1)
  replace Ps2_0 := hide (Ps2_0.out.ext x1)
  replace X := hide (X.out.trans x1)
  have G6_0 := hide o0; have K6_0 := hide q0; clear o0 q0
  have kc6_0 := kM.ok_cnt K6_0.out
  clear x1
  have qqs1_0 := (Ps1_0.out.alloc (.cells #[.slice As6_0 ns6_0 cs6_0, .slice As6_0' ns6_0' cs6_0'] 28)).cell
  have qqs2_0 := (Ps2_0.out.alloc (.cells #[.slice As6_0 ns6_0 cs6_0, .slice As6_0' ns6_0' cs6_0'] 28)).cell
  have qs1_0 := Ps1_0.out.cell
  have qs2_0 := Ps2_0.out.cell
  go_wp2_with fail
  clear qs1_0 qs2_0
  clear qqs1_0 qqs2_0
  obtain ⟨Ws6_0, hWs6_0⟩ : ∃ W', Hid (W' = w6.alloc (.cells #[.slice As6_0 ns6_0 cs6_0, .slice As6_0' ns6_0' cs6_0'] 28)) := ⟨_, rfl⟩
  have x1 : Ext w6 Ws6_0 := by rw [hWs6_0.out]; exact Ext.alloc _ _
  replace G1_0 := hide (kM.fr_ext G1_0.out x1)
  replace G2_0m := hide (kM.fr_ext G2_0m.out x1)
  replace G6_0 := hide (kM.fr_ext G6_0.out x1)
  replace Ps1_0 := hide (Ps1_0.out.ext x1)
  replace Ps2_0 := hide (Ps2_0.out.ext x1)
  replace X := hide (X.out.trans x1)
  have Ps6_0 : Hid (Blk Ws6_0 w6.heap.size #[.slice As6_0 ns6_0 cs6_0, .slice As6_0' ns6_0' cs6_0'] 28) := by rw [hWs6_0.out]; exact Blk.new rfl _ _
  have szPs6_0 := Ps6_0.out.lt
  rw [← hWs6_0.out]; clear hWs6_0 x1
  refine (kM.eq _ _ _ _ (kM.fr_rd G6_0.out) (kM.fr_rd G1_0.out) K1_0.out).mono ?_
  rintro e w7 ⟨rfl, x1⟩
  have sz7 := x1.size
  replace G1_0 := hide (kM.fr_ext G1_0.out x1)
  replace G2_0m := hide (kM.fr_ext G2_0m.out x1)
  replace G6_0 := hide (kM.fr_ext G6_0.out x1)
  replace Ps1_0 := hide (Ps1_0.out.ext x1)
  replace Ps2_0 := hide (Ps2_0.out.ext x1)
  replace Ps6_0 := hide (Ps6_0.out.ext x1)
  replace X := hide (X.out.trans x1)
  clear x1
  have qs1_0 := Ps1_0.out.cell
  have qs2_0 := Ps2_0.out.cell
  have qs6_0 := Ps6_0.out.cell
  go_wp2_with fail
  clear qs1_0 qs2_0 qs6_0
  refine (kM.held _ _ (parseF z0).1 _ (kM.fr_rd G2_0m.out) K2_0.out (by omega) (by omega)).mono ?_
  rintro e w8 ⟨rfl, x1⟩
  have sz8 := x1.size
  replace G1_0 := hide (kM.fr_ext G1_0.out x1)
  replace G2_0m := hide (kM.fr_ext G2_0m.out x1)
  replace G6_0 := hide (kM.fr_ext G6_0.out x1)
  replace Ps1_0 := hide (Ps1_0.out.ext x1)
  replace Ps2_0 := hide (Ps2_0.out.ext x1)
  replace Ps6_0 := hide (Ps6_0.out.ext x1)
  replace X := hide (X.out.trans x1)
  clear x1
  have qs1_0 := Ps1_0.out.cell
  have qs2_0 := Ps2_0.out.cell
  have qs6_0 := Ps6_0.out.cell
  go_wp2_with fail
  clear qs1_0 qs2_0 qs6_0
  go_ret
  exact ⟨rfl, X.out⟩

end Go.Proofs.YtnokilofcdbjhaaDoor
