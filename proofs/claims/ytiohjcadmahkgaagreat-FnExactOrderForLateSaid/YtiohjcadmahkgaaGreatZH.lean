/- A rule holds (the program). -/
import Derived.Test.YtiohjcadmahkgaaGreatZG
import Derived.Test.YtiohjcadmahkgaaGreatZD
namespace Go.Proofs.YtiohjcadmahkgaaGreat
open Go.RowKit Go.Sort
set_option linter.unusedVariables false

theorem i.isLateAt_any (k n : Int) (w : World) (h0 : 0 ≤ k) (h1 : k ≤ 1048576) (h2 : 0 ≤ n) (h3 : n ≤ 1048576) : Calls Tryz.prog 54 #[.int .i64 k, .int .i64 n] w fun e w' => e = .returned (.bool (decide (n ≤ 2 * k))) ∧ w = w' := by
  go_enter Tryz.func54, Tryz.ntmps54
  go_wp2
  go_ret
  exact ⟨rfl, rfl⟩

/-- What the rules ask of a list. -/
structure PgOk (d : CoD) (xs : List ItD) : Prop where
  cd : CodeOk d
  n14 : xs.length ≤ 14
  n3 : ∀ x ∈ xs, 1 ≤ x.1.length ∧ x.1.length ≤ 3
  wt : wtL kdItem xs ≤ 1048576
theorem PgOk.le3 {d : CoD} {xs : List ItD} (h : PgOk d xs) : ∀ x ∈ xs, x.1.length ≤ 3 := fun x hx => (h.n3 x hx).2
theorem PgOk.wtk {d : CoD} {xs : List ItD} (h : PgOk d xs) : ∀ (k : Nat) (x : ItD), xs[k]? = some x → kdItem.wt x ≤ 1048576 := fun k x hk => Nat.le_trans (wtL_at kdItem xs k x hk) h.wt

set_option maxRecDepth 100000 in
set_option maxHeartbeats 2000000 in
theorem i.ruleHolds_m (w : World) (v : Value) (d : CoD) (A : Option Addr) (c B : Nat) (xs : List ItD) (r : Int) (h : kC.rd w v d) (hok : kC.ok d) (hg : PgOk d xs) (hi : LR kdItem w B A c xs) (hB : B ≤ w.heap.size) (hr1 : 1 ≤ r) (hr8 : r ≤ 8) :
    Calls Tryz.prog 64 #[v, .slice A xs.length c, .int .i64 r] w fun e w' => e = .returned (.bool (ruleB d xs r)) ∧ Ext w w' := by
  obtain ⟨Ac, nc, cc, Al, nl, cl, rr, b, p, f, rfl⟩ := kC.shape h
  have a1 := hi.1; have a2 := hi.2.1
  have h14 := hg.n14
  obtain ⟨W0, hW0⟩ : ∃ W0, Hid (W0 = w.alloc (.cells #[.slice Ac nc cc, .slice Al nl cl, .int .i64 rr, .int .i64 b, .int .i64 p, .int .i64 f] 34)) := ⟨_, rfl⟩
  have X0 : Hid (Ext w W0) := by rw [hW0.out]; exact Ext.alloc w _
  have HR0 := kC.rd_ext h X0.out
  have HI0 := hi.ext X0.out hB
  have HB0 := Nat.le_trans hB X0.out.size
  have C2 := hide (i.isKnown_m W0 _ d A c B xs HR0 hok HI0 HB0 (by omega) hg.wtk)
  have C3 := hide (containsUnm W0 A c B xs HI0 HB0 hg.wt)
  have C4 := hide (i.combinesJumps_m W0 _ d A c B xs HR0 hok hg.cd HI0 HB0 h14 hg.le3)
  have C5 := hide (i.combinesFew_m W0 A c B xs HI0 HB0 h14 hg.le3)
  have C6 := hide (i.fitsLimits_m W0 _ d A c B xs HR0 hok hg.cd HI0 HB0 h14 hg.n3)
  have C7 := hide (i.repeatsWell_m W0 _ d A c B xs HR0 hok HI0 HB0 h14 hg.le3)
  have H := hide hi
  have E1 : Hid (ruleB d xs 1 = decide (0 < (xs.length : Int))) := rfl
  have E2 : Hid (ruleB d xs 2 = knownB d.1 xs) := rfl
  have E3 : Hid (ruleB d xs 3 = xs.all unmP) := rfl
  have E4 : Hid (ruleB d xs 4 = xs.all (jumpI d)) := rfl
  have E5 : Hid (ruleB d xs 5 = (decide ((twoN xs : Int) ≤ 3) && decide ((threeN xs : Int) ≤ 1))) := rfl
  have E7 : Hid (ruleB d xs 7 = xs.all (repI d xs)) := rfl
  have E8 : Hid (ruleB d xs 8 = (List.range xs.length).all (lateAt xs)) := rfl
  clear h hi hg HR0 HI0 HB0
  obtain ⟨n, hn⟩ : ∃ n, Hid (xs.length = n) := ⟨_, rfl⟩
  rw [hn.out] at a1 h14 C2 C3 C4 C5 C6 C7 E1 E8 ⊢
  have hc : r = 1 ∨ r = 2 ∨ r = 3 ∨ r = 4 ∨ r = 5 ∨ r = 6 ∨ r = 7 ∨ r = 8 := by omega
  clear hr1 hr8
  rcases hc with rfl | rfl | rfl | rfl | rfl | rfl | rfl | rfl
  · rw [E1.out]
    clear C2 C3 C4 C5 C6 C7 E1 E2 E3 E4 E5 E7 E8
    by_cases h0 : 0 < n
    · rw [show decide (0 < (n : Int)) = true from by simp; omega]
      go_enter Tryz.func64, Tryz.ntmps64
      go_wp2
      rw [← hW0.out]
      go_ret
      exact ⟨rfl, X0.out⟩
    · have h1 : ¬ 0 < (n : Int) := by omega
      rw [show decide (0 < (n : Int)) = false from by simp; omega]
      go_enter Tryz.func64, Tryz.ntmps64
      go_wp2
      rw [← hW0.out]
      go_ret
      exact ⟨rfl, X0.out⟩
  · rw [E2.out]
    clear C3 C4 C5 C6 C7 E1 E2 E3 E4 E5 E7 E8
    generalize knownB d.1 xs = F at *
    go_enter Tryz.func64, Tryz.ntmps64
    go_wp2_with fail
    rw [← hW0.out]
    clear hW0
    refine C2.out.mono ?_
    rintro e w1 ⟨rfl, x1⟩
    have X1 := hide (X0.out.trans x1)
    clear x1 C2
    go_wp2
    go_ret
    exact ⟨rfl, X1.out⟩
  · rw [E3.out]
    clear C2 C4 C5 C6 C7 E1 E2 E3 E4 E5 E7 E8
    generalize xs.all unmP = F at *
    go_enter Tryz.func64, Tryz.ntmps64
    go_wp2_with fail
    rw [← hW0.out]
    clear hW0
    refine C3.out.mono ?_
    rintro e w1 ⟨rfl, x1⟩
    have X1 := hide (X0.out.trans x1)
    clear x1 C3
    cases F
    · go_wp2
      go_ret
      exact ⟨rfl, X1.out⟩
    · go_wp2
      go_ret
      exact ⟨rfl, X1.out⟩
  · rw [E4.out]
    clear C2 C3 C5 C6 C7 E1 E2 E3 E4 E5 E7 E8
    generalize xs.all (jumpI d) = F at *
    go_enter Tryz.func64, Tryz.ntmps64
    go_wp2_with fail
    rw [← hW0.out]
    clear hW0
    refine C4.out.mono ?_
    rintro e w1 ⟨rfl, x1⟩
    have X1 := hide (X0.out.trans x1)
    clear x1 C4
    go_wp2
    go_ret
    exact ⟨rfl, X1.out⟩
  · rw [E5.out]
    clear C2 C3 C4 C6 C7 E1 E2 E3 E4 E5 E7 E8
    generalize (decide ((twoN xs : Int) ≤ 3) && decide ((threeN xs : Int) ≤ 1)) = F at *
    go_enter Tryz.func64, Tryz.ntmps64
    go_wp2_with fail
    rw [← hW0.out]
    clear hW0
    refine C5.out.mono ?_
    rintro e w1 ⟨rfl, x1⟩
    have X1 := hide (X0.out.trans x1)
    clear x1 C5
    go_wp2
    go_ret
    exact ⟨rfl, X1.out⟩
  · clear C2 C3 C4 C5 C7 E1 E2 E3 E4 E5 E7 E8
    generalize ruleB d xs 6 = F at *
    go_enter Tryz.func64, Tryz.ntmps64
    go_wp2_with fail
    rw [← hW0.out]
    clear hW0
    refine C6.out.mono ?_
    rintro e w1 ⟨rfl, x1⟩
    have X1 := hide (X0.out.trans x1)
    clear x1 C6
    go_wp2
    go_ret
    exact ⟨rfl, X1.out⟩
  · rw [E7.out]
    clear C2 C3 C4 C5 C6 E1 E2 E3 E4 E5 E7 E8
    generalize xs.all (repI d xs) = F at *
    go_enter Tryz.func64, Tryz.ntmps64
    go_wp2_with fail
    rw [← hW0.out]
    clear hW0
    refine C7.out.mono ?_
    rintro e w1 ⟨rfl, x1⟩
    have X1 := hide (X0.out.trans x1)
    clear x1 C7
    go_wp2
    go_ret
    exact ⟨rfl, X1.out⟩
  · clear C2 C3 C4 C5 C6 C7 E1 E2 E3 E4 E5 E7
    obtain ⟨R, hR⟩ : ∃ R, Hid (ruleB d xs 8 = R) := ⟨_, rfl⟩
    rw [hR.out] at E8 ⊢
    go_enter Tryz.func64, Tryz.ntmps64
    go_wp2
    rw [← hW0.out]
    clear hW0
    go_loopw [46] (fun i0 wr => ∃ (k : Nat), k ≤ n ∧ i0 = .int .i64 k ∧ ((List.range n).take k).all (lateAt xs) = true ∧ Ext W0 wr) (fun i0 _ => n - (intOf i0).toNat)
    case atStart => exact ⟨0, Nat.zero_le _, rfl, rfl, Ext.refl _⟩
    case round =>
      obtain ⟨k, hk, rfl, hall, hx⟩ := hrel
      have HA := hide hall
      have HX := hide hx
      clear hall hx
      by_cases hlt : k < n
      · obtain ⟨x, hxk⟩ : ∃ x, Hid (xs[k]? = some x) := get_exP xs k (by rw [hn.out]; exact hlt)
        have XA := hide (X0.out.trans HX.out)
        obtain ⟨bb, off, A1, c1, A2, c2, rfl, hbb, q0, q1, q2, r1, r2⟩ := (H.out.ext XA.out hB).item k x hxk.out
        have RK := hide (List.getElem?_range hlt)
        have LA : Hid (lateAt xs k = (x.2.2 == decide ((n : Int) ≤ 2 * (k : Int)))) := by show _ = _; unfold lateAt; rw [List.getD_eq_getElem?_getD, hxk.out, Option.getD_some, hn.out]
        obtain ⟨W1, hW1⟩ : ∃ W1, Hid (W1 = wr.alloc (.cells #[.slice A1 x.1.length c1, .slice A2 x.2.1.length c2, .bool x.2.2] 53)) := ⟨_, rfl⟩
        have XN : Hid (Ext W0 W1) := by rw [hW1.out]; exact HX.out.trans (Ext.alloc _ _)
        have B1 : Hid (Blk W1 wr.heap.size #[.slice A1 x.1.length c1, .slice A2 x.2.1.length c2, .bool x.2.2] 53) := by rw [hW1.out]; exact Blk.new rfl _ _
        clear r1 r2
        generalize x.1.length = m1 at *
        generalize x.2.1.length = m2 at *
        generalize x.2.2 = m3 at *
        have IL := hide (fun (wq : World) => i.isLateAt_any (k : Int) (n : Int) wq (by omega) (by omega) (by omega) (by omega))
        obtain ⟨T, hT⟩ : ∃ T, Hid (decide ((n : Int) ≤ 2 * (k : Int)) = T) := ⟨_, rfl⟩
        rw [hT.out] at IL LA
        go_wp2
        rw [← hW1.out]
        clear hW1 q0 q1 q2
        have cI := B1.out.cell
        go_quiet ((go_at_call 54; refine Calls.quiet_of_same ((IL.out _).mono (fun e w' h => ⟨h.1, h.2.symm⟩))))
        have XM := hide (XN.out.trans (Ext.drewN W1 nq))
        clear IL hT cI
        cases m3 <;> cases T
        · have HN : Hid (lateAt xs k = true) := by show _ = _; rw [LA.out]; rfl
          go_wp2
          go_roundw
          case rel => exact ⟨k + 1, by omega, by go_num, allL_step RK.out HA.out HN.out, by first | exact XM.out | exact XN.out⟩
          case measure => simp [intOf]; omega
        · have HF : Hid (R = false) := by show _ = _; rw [E8.out]; exact allL_stop RK.out (by rw [LA.out]; rfl)
          go_wp2
          go_ret
          exact ⟨ret_bool HF.out.symm, X0.out.trans (by first | exact XM.out | exact XN.out)⟩
        · have HF : Hid (R = false) := by show _ = _; rw [E8.out]; exact allL_stop RK.out (by rw [LA.out]; rfl)
          go_wp2
          go_ret
          exact ⟨ret_bool HF.out.symm, X0.out.trans (by first | exact XM.out | exact XN.out)⟩
        · have HN : Hid (lateAt xs k = true) := by show _ = _; rw [LA.out]; rfl
          go_wp2
          go_roundw
          case rel => exact ⟨k + 1, by omega, by go_num, allL_step RK.out HA.out HN.out, by first | exact XM.out | exact XN.out⟩
          case measure => simp [intOf]; omega
      · have HF : Hid (R = true) := by show _ = _; rw [E8.out]; exact allL_end (by rw [List.length_range]; omega) HA.out
        go_wp2
        go_ret
        exact ⟨ret_bool HF.out.symm, X0.out.trans HX.out⟩
end Go.Proofs.YtiohjcadmahkgaaGreat
