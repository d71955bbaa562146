/- A rule holds (the reference). -/
import Derived.Test.YtiohjcadmahkgaaGreatZC
import Derived.Test.YtiohjcadmahkgaaGreatZH
namespace Go.Proofs.YtiohjcadmahkgaaGreat
open Go.RowKit Go.Sort
set_option linter.unusedVariables false

set_option maxRecDepth 100000 in
set_option maxHeartbeats 4000000 in
theorem s.pgHolds_m (w : World) (v : Value) (d : CoD) (A : Option Addr) (c B : Nat) (xs : List ItD) (r : Int) (h : kC.rd w v d) (hok : kC.ok d) (hg : PgOk d xs) (hi : LR kdItem w B A c xs) (hB : B ≤ w.heap.size) (hr1 : 1 ≤ r) (hr8 : r ≤ 8) :
    Calls Tryz.prog 60 #[v, .slice A xs.length c, .int .i64 r] w fun e w' => e = .returned (.bool (ruleB d xs r)) ∧ Ext w w' := by
  obtain ⟨Ac, cc, Al, cl, rfl, _, hll⟩ := kC.lr h
  obtain ⟨nc, NC⟩ : ∃ z, Hid (d.1.length = z) := ⟨_, rfl⟩
  have nl5 := hg.cd.lim
  rw [nl5] at h ⊢
  obtain ⟨rr, RN⟩ : ∃ z, Hid (d.2.2.1 = z) := ⟨_, rfl⟩
  obtain ⟨b, BN⟩ : ∃ z, Hid (d.2.2.2.1 = z) := ⟨_, rfl⟩
  obtain ⟨p, PN⟩ : ∃ z, Hid (d.2.2.2.2.1 = z) := ⟨_, rfl⟩
  obtain ⟨f, FN⟩ : ∃ z, Hid (d.2.2.2.2.2 = z) := ⟨_, rfl⟩
  rw [NC.out, RN.out, BN.out, PN.out, FN.out] at h ⊢
  have a1 := hi.1; have a2 := hi.2.1
  have b1 := hll.1; have b2 := hll.2.1
  have HLL := hide hll
  have N5 := hide nl5
  have HD := hide hg.cd
  have h14 := hg.n14
  obtain ⟨W0, hW0⟩ : ∃ W0, Hid (W0 = w.alloc (.cells #[.slice Ac nc cc, .slice Al 5 cl, .int .i64 rr, .int .i64 b, .int .i64 p, .int .i64 f] 34)) := ⟨_, rfl⟩
  have X0 : Hid (Ext w W0) := by rw [hW0.out]; exact Ext.alloc w _
  have B0 : Hid (Blk W0 w.heap.size #[.slice Ac nc cc, .slice Al 5 cl, .int .i64 rr, .int .i64 b, .int .i64 p, .int .i64 f] 34) := by rw [hW0.out]; exact Blk.new rfl _ _
  have HR0 := kC.rd_ext h X0.out
  have HI0 := hi.ext X0.out hB
  have HB0 := Nat.le_trans hB X0.out.size
  have CN := hide (fun r9 (h9 : r9 = 2 ∨ r9 = 4 ∨ r9 = 7) => s.pgNames_m W0 _ d A c B xs r9 HR0 hok hg.cd HI0 HB0 h14 hg.le3 h9)
  have C3 := hide (s.pgClean_any W0 A c B xs HI0 HB0 hg.wt)
  have C5 := hide (s.pgCombined_m W0 A c B xs HI0 HB0 h14 hg.le3)
  have C6 := hide (s.pgCounts_m W0 _ d A c B xs HR0 hok hg.cd HI0 HB0 h14 hg.n3)
  have C8 := hide (s.pgHalf_m W0 A c B xs HI0 HB0 h14)
  have E1 : Hid (ruleB d xs 1 = decide (0 < (xs.length : Int))) := rfl
  have E3 : Hid (ruleB d xs 3 = xs.all unmP) := rfl
  have E5 : Hid (ruleB d xs 5 = (decide ((twoN xs : Int) ≤ 3) && decide ((threeN xs : Int) ≤ 1))) := rfl
  have E8 : Hid (ruleB d xs 8 = lateB xs) := rfl
  have R6 := hide (rule6 d xs)
  have CB := hide (fun k => fcL_bd d xs xs.length k)
  have CA : Hid (∀ k, k < 5 → fitAt d xs k = decide ((fcL d xs xs.length).getD k 0 ≤ d.2.1.getD k 0)) := fun k hk => by
    unfold fitAt
    rw [fcL_at _ _ _ _ hk, List.take_length]
  clear h hi hg HR0 HI0 HB0 hll nl5
  obtain ⟨n, hn⟩ : ∃ n, Hid (xs.length = n) := ⟨_, rfl⟩
  rw [hn.out] at a1 h14 CN C3 C5 C6 C8 E1 CB CA ⊢
  have RA := hide (fun k (hk : k < 5) => (List.getElem?_range hk : (List.range 5)[k]? = some k))
  have hc : r = 1 ∨ r = 3 ∨ r = 5 ∨ r = 6 ∨ r = 8 ∨ (r = 2 ∨ r = 4 ∨ r = 7) := by omega
  clear hr1 hr8
  rcases hc with rfl | rfl | rfl | rfl | rfl | h9
  · rw [E1.out]
    clear CN C3 C5 C6 C8 E1 E3 E5 E8 R6 CB CA
    by_cases h0 : 0 < n
    · rw [show decide (0 < (n : Int)) = true from by simp; omega]
      go_enter Tryz.func60, Tryz.ntmps60
      go_wp2
      rw [← hW0.out]
      go_ret
      exact ⟨rfl, X0.out⟩
    · have h1 : ¬ 0 < (n : Int) := by omega
      rw [show decide (0 < (n : Int)) = false from by simp; omega]
      go_enter Tryz.func60, Tryz.ntmps60
      go_wp2
      rw [← hW0.out]
      go_ret
      exact ⟨rfl, X0.out⟩
  · rw [E3.out]
    clear CN C5 C6 C8 E1 E3 E5 E8 R6 CB CA
    generalize xs.all unmP = F at *
    go_enter Tryz.func60, Tryz.ntmps60
    go_wp2_with fail
    rw [← hW0.out]
    clear hW0
    refine C3.out.mono ?_
    rintro e w1 ⟨rfl, x1⟩
    have X1 := hide (X0.out.trans x1)
    clear x1 C3
    go_wp2
    go_ret
    exact ⟨rfl, X1.out⟩
  · obtain ⟨R, hR⟩ : ∃ R, Hid (ruleB d xs 5 = R) := ⟨_, rfl⟩
    rw [hR.out] at E5 ⊢
    clear CN C3 C6 C8 E1 E3 E8 R6 CB CA
    generalize twoN xs = ta at *
    generalize threeN xs = tb at *
    go_enter Tryz.func60, Tryz.ntmps60
    go_wp2_with fail
    rw [← hW0.out]
    clear hW0
    refine C5.out.mono ?_
    rintro e w1 ⟨rfl, x1⟩
    have X1 := hide (X0.out.trans x1)
    clear x1 C5
    by_cases g1 : (ta : Int) ≤ 3
    · have HF : Hid (R = decide ((tb : Int) ≤ 1)) := by show _ = _; rw [E5.out]; simp [g1]
      go_wp2
      go_ret
      exact ⟨ret_bool HF.out.symm, X1.out⟩
    · have HF : Hid (R = false) := by show _ = _; rw [E5.out]; simp [g1]
      go_wp2
      go_ret
      exact ⟨ret_bool HF.out.symm, X1.out⟩
  · clear CN C3 C5 C8 E1 E3 E5 E8
    obtain ⟨R, hR⟩ : ∃ R, Hid (ruleB d xs 6 = R) := ⟨_, rfl⟩
    rw [hR.out] at R6 ⊢
    have cB0 := B0.out.cell
    rw [hW0.out] at cB0
    go_enter Tryz.func60, Tryz.ntmps60
    go_wp2_with fail
    rw [← hW0.out]
    clear hW0 cB0
    refine C6.out.mono ?_
    rintro e w1 ⟨A5, c5, rfl, o5, x5⟩
    have O5 := hide o5
    have X5 := hide x5
    have oc1 := o5.capn; have oc2 := o5.capm
    clear o5 x5 C6
    go_wp2
    go_loopw [40] (fun i wr => ∃ (k : Nat), k ≤ 5 ∧ i = .int .i64 k ∧ ((List.range 5).take k).all (fitAt d xs) = true ∧ Ext w1 wr) (fun i _ => 5 - (intOf i).toNat)
    case atStart => exact ⟨0, Nat.zero_le _, rfl, rfl, Ext.refl _⟩
    case round =>
      obtain ⟨k, hk, rfl, hall, hx⟩ := hrel
      have HA := hide hall
      have HX := hide hx
      clear hall hx
      by_cases hlt : k < 5
      · have XA := hide (X5.out.trans HX.out)
        have OK := hide (OwnI.below O5.out HX.out (Nat.le_refl _))
        obtain ⟨g, rfl, hg1, hg2, _⟩ := OwnI.pos OK.out (by omega)
        have cO := OwnI.cell OK.out k hlt
        have cB := (B0.out.ext XA.out).cell
        obtain ⟨z, hz⟩ : ∃ z, Hid (d.2.1[k]? = some z) := get_exP d.2.1 k (by rw [N5.out]; exact hlt)
        obtain ⟨bl, ol, rfl, hbl, hcl⟩ := (HLL.out.sl.ext (X0.out.trans XA.out) (Nat.le_refl _)).cells (by rw [N5.out]; omega)
        have cL := hcl k (by rw [N5.out]; exact hlt)
        have FI := hide (CA.out k hlt)
        have cb := CB.out k
        have lb := HD.out.limb z (List.mem_of_getElem? hz.out)
        rw [getD_some hz.out] at cL
        rw [show d.2.1.getD k 0 = z from getD_some hz.out] at FI
        obtain ⟨S, hS⟩ : ∃ S, Hid ((fcL d xs n).getD k 0 = S) := ⟨_, rfl⟩
        rw [hS.out] at cO FI cb
        have i5 : (k : Int) < 5 := by omega
        clear hcl
        by_cases hle : z < S
        · have HN : Hid (fitAt d xs k = false) := by show _ = _; rw [FI.out]; simp; omega
          have HF : Hid (R = false) := by show _ = _; rw [R6.out]; exact allL_stop (RA.out k hlt) HN.out
          go_wp2
          go_ret
          exact ⟨ret_bool HF.out.symm, X0.out.trans XA.out⟩
        · have HN : Hid (fitAt d xs k = true) := by show _ = _; rw [FI.out]; simp; omega
          go_wp2
          go_roundw
          case rel => exact ⟨k + 1, by omega, by go_num, allL_step (RA.out k hlt) HA.out HN.out, HX.out⟩
          case measure => simp [intOf]; omega
      · have HF : Hid (R = true) := by show _ = _; rw [R6.out]; exact allL_end (by simp; omega) HA.out
        go_wp2
        go_ret
        exact ⟨ret_bool HF.out.symm, X0.out.trans (X5.out.trans HX.out)⟩
  · rw [E8.out]
    clear CN C3 C5 C6 E1 E3 E5 E8 R6 CB CA
    generalize lateB xs = F at *
    go_enter Tryz.func60, Tryz.ntmps60
    go_wp2_with fail
    rw [← hW0.out]
    clear hW0
    refine C8.out.mono ?_
    rintro e w1 ⟨rfl, x1⟩
    have X1 := hide (X0.out.trans x1)
    clear x1 C8
    go_wp2
    go_ret
    exact ⟨rfl, X1.out⟩
  · have E9 : ruleB d xs r = namesR d xs r := by rcases h9 with rfl | rfl | rfl <;> rfl
    have CQ := hide (CN.out r h9)
    rw [E9]
    clear CN C3 C5 C6 C8 E1 E3 E5 E8 R6 CB CA E9
    generalize namesR d xs r = F at *
    have cB0 := B0.out.cell
    rw [hW0.out] at cB0
    rcases h9 with rfl | rfl | rfl
    all_goals
      go_enter Tryz.func60, Tryz.ntmps60
      go_wp2_with fail
      rw [← hW0.out]
      clear hW0 cB0
      refine CQ.out.mono ?_
      rintro e w1 ⟨rfl, x1⟩
      have X1 := hide (X0.out.trans x1)
      clear x1 CQ
      go_wp2
      go_ret
      exact ⟨rfl, X1.out⟩
end Go.Proofs.YtiohjcadmahkgaaGreat
