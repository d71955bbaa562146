/- Codes that are valid: the reference. -/
import Derived.Test.YtmckompikbechaaRD
namespace Go.Proofs.Ytmckompikbechaa
open Go.RowKit Go.Sort
set_option linter.unusedVariables false

set_option maxRecDepth 100000 in
set_option maxHeartbeats 1000000 in
theorem s.cdGood_m (w : World) (v : Value) (d : CoD) (h : kC.rd w v d) (hok : kC.ok d) :
    Calls Try.prog 81 #[v] w fun e w' => e = .returned (.bool (codeB d)) ∧ Ext w w' := by
  obtain ⟨A, c, A', c', rfl, h1, h2⟩ := kC.lr h
  have hok : kdCo.wt d ≤ 1048576 := hok
  rw [kdCo.wt_eq] at hok
  obtain ⟨d1, d2, r, b, p, f⟩ := d
  dsimp only at *
  have hw1 : wtL kdEl d1 ≤ 1048576 := by have : kdElS.wt d1 = wtL kdEl d1 := rfl; omega
  have hw2 : d2.length ≤ 1048576 := by have : kdL.wt d2 = d2.length := wtL_int _; omega
  have k1 := wtL_len kdEl d1
  have a1 := h1.1; have a2 := h1.2.1; have a3 := h2.1; have a4 := h2.2.1
  have H1 := hide h1
  have AL := hide (fun (wq : World) (xq : Ext w wq) => s.l1All_any A' d2.length c' w.heap.size d2 0 9 wq (h2.sl.ext xq (Nat.le_refl _)) hw2)
  clear h h1 h2 hok
  obtain ⟨R, hR⟩ : ∃ R, Hid (codeB (d1, d2, r, b, p, f) = R) := ⟨_, rfl⟩
  rw [hR.out]
  obtain ⟨n, hn⟩ : ∃ n, Hid (d1.length = n) := ⟨_, rfl⟩
  obtain ⟨n', hn'⟩ : ∃ n', Hid (d2.length = n') := ⟨_, rfl⟩
  have SE : Hid (R = (inB 1 24 (n : Int) && ((n' : Int) == 5) && d2.all (inB 0 9) && inB 1 3 r && inB 0 20 b && inB 50 100 p && inB 0 500 f && (List.range n).all (elAt d1))) := by show _ = _; rw [← hR.out, ← hn.out, ← hn'.out]; rfl
  clear hR
  rw [hn.out] at k1 a1 ⊢
  rw [hn'.out] at AL a3 hw2 ⊢
  have n1 : n ≤ 1048576 := by omega
  clear hw1 k1
  generalize hl : d2.all (inB 0 9) = lb at *
  clear hl
  obtain ⟨W0, hW0⟩ : ∃ W0, Hid (W0 = w.alloc (.cells #[.slice A n c, .slice A' n' c', .int .i64 r, .int .i64 b, .int .i64 p, .int .i64 f] 59)) := ⟨_, rfl⟩
  have X : Hid (Ext w W0) := by rw [hW0.out]; exact Ext.alloc w _
  have B0 : Hid (Blk W0 w.heap.size #[.slice A n c, .slice A' n' c', .int .i64 r, .int .i64 b, .int .i64 p, .int .i64 f] 59) := by rw [hW0.out]; exact Blk.new rfl _ _
  have SEL := hide (fun (k : Nat) (x : ElD) (h : d1[k]? = some x) => elAt_some h)
  go_enter Try.func81, Try.ntmps81
  go_wp2
  rw [← hW0.out]
  clear hW0
  go_loopw [8] (fun i wr => ∃ (k : Nat), k ≤ n ∧ i = .int .i64 k ∧ (List.range k).all (elAt d1) = true ∧ Blk wr w.heap.size #[.slice A n c, .slice A' n' c', .int .i64 r, .int .i64 b, .int .i64 p, .int .i64 f] 59 ∧ Ext w wr) (fun i _ => n - (intOf i).toNat)
  case atStart => exact ⟨0, Nat.zero_le _, rfl, rfl, B0.out, X.out⟩
  case round =>
    obtain ⟨k, hk, rfl, hall, hb0, hx⟩ := hrel
    clear B0 X
    have HA := hide hall
    have B0 := hide hb0
    have X := hide hx
    clear hall hb0 hx
    by_cases hlt : k < n
    · obtain ⟨x, hxk⟩ : ∃ x, Hid (d1[k]? = some x) := ⟨_, List.getElem?_eq_getElem (by rw [hn.out]; exact hlt)⟩
      obtain ⟨g, off, rfl, hg, u0, u1, u2, u3, xl⟩ := (H1.out.ext X.out (Nat.le_refl _)).element k x hxk.out
      have sz := X.out.size
      have S1 := SEL.out k x hxk.out
      obtain ⟨eb, heb⟩ : ∃ eb, Hid (elB x = eb) := ⟨_, rfl⟩
      rw [heb.out] at S1
      have EA := hide S1
      have LE := hide heb.out
      clear S1
      obtain ⟨W1, hW1⟩ : ∃ W1, Hid (W1 = wr.alloc (.cells #[.string (bs x.1), .int .i64 x.2.1, .int .i64 x.2.2.1, .int .i64 x.2.2.2] 109)) := ⟨_, rfl⟩
      have x1 : Ext wr W1 := by rw [hW1.out]; exact Ext.alloc _ _
      have B1 : Hid (Blk W1 wr.heap.size #[.string (bs x.1), .int .i64 x.2.1, .int .i64 x.2.2.1, .int .i64 x.2.2.2] 109) := by rw [hW1.out]; exact Blk.new rfl _ _
      have HS : Hid ((List.range n).all (elAt d1) = false → R = false) := fun h9 => by rw [SE.out, h9]; simp
      by_cases hk0 : k = 0
      · have HU : Hid (elAt d1 k = eb) := by show _ = _; rw [EA.out, hk0, upB_zero]; simp
        have kp : ¬ (0 < k) := by omega
        clear EA
        have kI : decide ((0 : Int) < (k : Int)) = false := by simp; omega
        clear hk0
        have CE := hide (fun dd os => ext_regrown (s.cdElement_any x (grow (redrawn W1 dd) os) xl))
        rw [heb.out] at CE
        have X1 := hide (X.out.trans x1)
        have B2 := hide (B0.out.ext x1)
        clear x1
        go_wp2
        rw [← hW1.out]
        clear hW1 u0 u1 u2 u3
        have c0_ := fun dd os => cell_regrown (show W1.cell? ⟨w.heap.size, 0, none⟩ = some (.slice (some ⟨g, off, none⟩) n c) from B2.out.cell 0) dd os
        have c10_ := fun dd os => cell_regrown (show W1.cell? ⟨wr.heap.size, 0, none⟩ = some (.string (bs x.1)) from B1.out.cell 0) dd os
        have c11_ := fun dd os => cell_regrown (show W1.cell? ⟨wr.heap.size, 1, none⟩ = some (.int .i64 x.2.1) from B1.out.cell 1) dd os
        have c12_ := fun dd os => cell_regrown (show W1.cell? ⟨wr.heap.size, 2, none⟩ = some (.int .i64 x.2.2.1) from B1.out.cell 2) dd os
        have c13_ := fun dd os => cell_regrown (show W1.cell? ⟨wr.heap.size, 3, none⟩ = some (.int .i64 x.2.2.2) from B1.out.cell 3) dd os
        cases eb
        case false =>
          refine wp_region_quiet_below (by kernel_rfl) (by kernel_rfl) ?_
          repeat (go_big_quiet_step (exact CE.out _ _))
          refine wpQuiet_nil ?_
          intro _ hw'
          obtain ⟨⟨dq, osq⟩, hw''⟩ := hw'
          subst hw''
          have Y2 := hide (ext_re W1 dq osq)
          clear c0_ c10_ c11_ c12_ c13_
          generalize grow (redrawn W1 dq) osq = w2 at *
          have HF := hide (HS.out (range_stop hlt (by rw [HU.out])))
          go_wp2
          go_ret
          exact ⟨ret_bool HF.out.symm, X1.out.trans Y2.out⟩
        case true =>
          refine wp_region_quiet_below (by kernel_rfl) (by kernel_rfl) ?_
          repeat (go_big_quiet_step (exact CE.out _ _))
          refine wpQuiet_nil ?_
          intro _ hw'
          obtain ⟨⟨dq, osq⟩, hw''⟩ := hw'
          subst hw''
          have Y2 := hide (ext_re W1 dq osq)
          clear c0_ c10_ c11_ c12_ c13_
          generalize grow (redrawn W1 dq) osq = w2 at *
          go_wp2
          go_roundw
          case rel => exact ⟨k + 1, by omega, by go_num, range_step HA.out (by rw [HU.out]), B2.out.ext Y2.out, X1.out.trans Y2.out⟩
          case measure => simp [intOf]; omega
      · have kp : 0 < k := by omega
        obtain ⟨y, hyk⟩ : ∃ y, Hid (d1[k - 1]? = some y) := ⟨_, List.getElem?_eq_getElem (by rw [hn.out]; omega)⟩
        obtain ⟨g', off', he, hg', t0, _⟩ := (H1.out.ext X.out (Nat.le_refl _)).element (k - 1) y hyk.out
        simp only [Option.some.injEq, Addr.mk.injEq, and_true] at he
        obtain ⟨rfl, rfl⟩ := he
        have HU : Hid (elAt d1 k = (eb && ltS y.1 x.1)) := by show _ = _; rw [EA.out, upB_succ kp hyk.out hxk.out]
        have TK : W1.cell? ⟨g, off + (k - 1) * 4, none⟩ = some (.string (bs y.1)) := (x1.cell (by show g < _; omega)).trans t0
        obtain ⟨lt, hlt9⟩ : ∃ lt, Op.bytesLess (bs y.1).toList (bs x.1).toList = lt := ⟨_, rfl⟩
        rw [show ltS y.1 x.1 = lt from hlt9] at HU
        have k1 : (k : Int) - 1 = ((k - 1 : Nat) : Int) := by omega
        have K1 := hide k1
        clear EA k1 t0
        have CE := hide (fun dd os => ext_regrown (s.cdElement_any x (grow (redrawn W1 dd) os) xl))
        rw [heb.out] at CE
        have X1 := hide (X.out.trans x1)
        have B2 := hide (B0.out.ext x1)
        clear x1
        have kI : decide ((0 : Int) < (k : Int)) = true := by simp; omega
        go_wp2
        rw [← hW1.out]
        clear hW1 u0 u1 u2 u3
        have c0_ := fun dd os => cell_regrown (show W1.cell? ⟨w.heap.size, 0, none⟩ = some (.slice (some ⟨g, off, none⟩) n c) from B2.out.cell 0) dd os
        have c10_ := fun dd os => cell_regrown (show W1.cell? ⟨wr.heap.size, 0, none⟩ = some (.string (bs x.1)) from B1.out.cell 0) dd os
        have c11_ := fun dd os => cell_regrown (show W1.cell? ⟨wr.heap.size, 1, none⟩ = some (.int .i64 x.2.1) from B1.out.cell 1) dd os
        have c12_ := fun dd os => cell_regrown (show W1.cell? ⟨wr.heap.size, 2, none⟩ = some (.int .i64 x.2.2.1) from B1.out.cell 2) dd os
        have c13_ := fun dd os => cell_regrown (show W1.cell? ⟨wr.heap.size, 3, none⟩ = some (.int .i64 x.2.2.2) from B1.out.cell 3) dd os
        have t1_ := fun dd os => cell_regrown TK dd os
        have k1 := K1.out
        cases eb
        case false =>
          refine wp_region_quiet_below (by kernel_rfl) (by kernel_rfl) ?_
          repeat (go_big_quiet_step (exact CE.out _ _))
          refine wpQuiet_nil ?_
          intro _ hw'
          obtain ⟨⟨dq, osq⟩, hw''⟩ := hw'
          subst hw''
          have Y2 := hide (ext_re W1 dq osq)
          clear c0_ c10_ c11_ c12_ c13_ t1_ k1 hlt9
          generalize grow (redrawn W1 dq) osq = w2 at *
          have HF := hide (HS.out (range_stop hlt (by rw [HU.out]; simp)))
          go_wp2
          go_ret
          exact ⟨ret_bool HF.out.symm, X1.out.trans Y2.out⟩
        case true =>
          cases lt
          case false =>
            refine wp_region_quiet_below (by kernel_rfl) (by kernel_rfl) ?_
            repeat (go_big_quiet_step (exact CE.out _ _))
            refine wpQuiet_nil ?_
            intro _ hw'
            obtain ⟨⟨dq, osq⟩, hw''⟩ := hw'
            subst hw''
            have Y2 := hide (ext_re W1 dq osq)
            clear c0_ c10_ c11_ c12_ c13_ t1_ k1 hlt9
            generalize grow (redrawn W1 dq) osq = w2 at *
            have HF := hide (HS.out (range_stop hlt (by rw [HU.out]; simp)))
            go_wp2
            go_ret
            exact ⟨ret_bool HF.out.symm, X1.out.trans Y2.out⟩
          case true =>
            refine wp_region_quiet_below (by kernel_rfl) (by kernel_rfl) ?_
            repeat (go_big_quiet_step (exact CE.out _ _))
            refine wpQuiet_nil ?_
            intro _ hw'
            obtain ⟨⟨dq, osq⟩, hw''⟩ := hw'
            subst hw''
            have Y2 := hide (ext_re W1 dq osq)
            clear c0_ c10_ c11_ c12_ c13_ t1_ k1 hlt9
            generalize grow (redrawn W1 dq) osq = w2 at *
            go_wp2
            go_roundw
            case rel => exact ⟨k + 1, by omega, by go_num, range_step HA.out (by rw [HU.out]; simp), B2.out.ext Y2.out, X1.out.trans Y2.out⟩
            case measure => simp [intOf]; omega
    · have HE : Hid ((List.range n).all (elAt d1) = true) := by rw [show n = k from by omega]; exact HA.out
      replace SE : Hid (R = (inB 1 24 (n : Int) && ((n' : Int) == 5) && lb && inB 1 3 r && inB 0 20 b && inB 50 100 p && inB 0 500 f)) := by show _ = _; rw [SE.out, HE.out]; simp
      have cB := B0.out.cell
      clear HE
      cases q0 : inB 1 24 (n : Int)
      case false =>
        have HF : Hid (R = false) := by show _ = _; rw [SE.out]; simp [q0]
        go_wp2_with (first | (go_at_call 68; refine (s.l1In_any _ _ _ _).mono ?_; rintro e w' ⟨rfl, rfl⟩) | (go_at_call 114; refine (AL.out _ X.out).mono ?_; rintro e w' ⟨rfl, rfl⟩))
        go_ret
        exact ⟨ret_bool HF.out.symm, X.out⟩
      replace SE : Hid (R = (((n' : Int) == 5) && lb && inB 1 3 r && inB 0 20 b && inB 50 100 p && inB 0 500 f)) := by show _ = _; rw [SE.out, q0]; simp
      by_cases q1 : n' = 5
      case neg =>
        have b5 : ((n' : Int) != 5) = true := by rw [bne_iff_ne]; intro h8; exact q1 (by omega)
        have b6 : ((n' : Int) == 5) = false := by rw [beq_eq_false_iff_ne]; intro h8; exact q1 (by omega)
        have HF : Hid (R = false) := by show _ = _; rw [SE.out]; simp [b6]
        clear q1
        go_wp2_with (first | (go_at_call 68; refine (s.l1In_any _ _ _ _).mono ?_; rintro e w' ⟨rfl, rfl⟩) | (go_at_call 114; refine (AL.out _ X.out).mono ?_; rintro e w' ⟨rfl, rfl⟩))
        go_ret
        exact ⟨ret_bool HF.out.symm, X.out⟩
      have b5 : ((n' : Int) != 5) = false := by simp [q1]
      have b6 : ((n' : Int) == 5) = true := by simp [q1]
      replace SE : Hid (R = (lb && inB 1 3 r && inB 0 20 b && inB 50 100 p && inB 0 500 f)) := by show _ = _; rw [SE.out, b6]; simp
      have q51 : n' ≤ 5 ∧ 5 ≤ n' := by omega
      clear q1
      cases lb
      case false =>
        have HF : Hid (R = false) := by show _ = _; rw [SE.out]; simp
        go_wp2_with (first | (go_at_call 68; refine (s.l1In_any _ _ _ _).mono ?_; rintro e w' ⟨rfl, rfl⟩) | (go_at_call 114; refine (AL.out _ X.out).mono ?_; rintro e w' ⟨rfl, rfl⟩))
        go_ret
        exact ⟨ret_bool HF.out.symm, X.out⟩
      replace SE : Hid (R = (inB 1 3 r && inB 0 20 b && inB 50 100 p && inB 0 500 f)) := by show _ = _; rw [SE.out]; simp
      cases q3 : inB 1 3 r
      case false =>
        have HF : Hid (R = false) := by show _ = _; rw [SE.out]; simp [q3]
        go_wp2_with (first | (go_at_call 68; refine (s.l1In_any _ _ _ _).mono ?_; rintro e w' ⟨rfl, rfl⟩) | (go_at_call 114; refine (AL.out _ X.out).mono ?_; rintro e w' ⟨rfl, rfl⟩))
        go_ret
        exact ⟨ret_bool HF.out.symm, X.out⟩
      replace SE : Hid (R = (inB 0 20 b && inB 50 100 p && inB 0 500 f)) := by show _ = _; rw [SE.out, q3]; simp
      cases q4 : inB 0 20 b
      case false =>
        have HF : Hid (R = false) := by show _ = _; rw [SE.out]; simp [q4]
        go_wp2_with (first | (go_at_call 68; refine (s.l1In_any _ _ _ _).mono ?_; rintro e w' ⟨rfl, rfl⟩) | (go_at_call 114; refine (AL.out _ X.out).mono ?_; rintro e w' ⟨rfl, rfl⟩))
        go_ret
        exact ⟨ret_bool HF.out.symm, X.out⟩
      replace SE : Hid (R = (inB 50 100 p && inB 0 500 f)) := by show _ = _; rw [SE.out, q4]; simp
      cases q5 : inB 50 100 p
      case false =>
        have HF : Hid (R = false) := by show _ = _; rw [SE.out]; simp [q5]
        go_wp2_with (first | (go_at_call 68; refine (s.l1In_any _ _ _ _).mono ?_; rintro e w' ⟨rfl, rfl⟩) | (go_at_call 114; refine (AL.out _ X.out).mono ?_; rintro e w' ⟨rfl, rfl⟩))
        go_ret
        exact ⟨ret_bool HF.out.symm, X.out⟩
      replace SE : Hid (R = (inB 0 500 f)) := by show _ = _; rw [SE.out, q5]; simp
      cases q6 : inB 0 500 f
      case false =>
        have HF : Hid (R = false) := by show _ = _; rw [SE.out]; simp [q6]
        go_wp2_with (first | (go_at_call 68; refine (s.l1In_any _ _ _ _).mono ?_; rintro e w' ⟨rfl, rfl⟩) | (go_at_call 114; refine (AL.out _ X.out).mono ?_; rintro e w' ⟨rfl, rfl⟩))
        go_ret
        exact ⟨ret_bool HF.out.symm, X.out⟩
      replace SE : Hid (R = (true)) := by show _ = _; rw [SE.out, q6]
      have HF : Hid (R = true) := by show _ = _; rw [SE.out]
      go_wp2_with (first | (go_at_call 68; refine (s.l1In_any _ _ _ _).mono ?_; rintro e w' ⟨rfl, rfl⟩) | (go_at_call 114; refine (AL.out _ X.out).mono ?_; rintro e w' ⟨rfl, rfl⟩))
      go_ret
      exact ⟨ret_bool HF.out.symm, X.out⟩
end Go.Proofs.Ytmckompikbechaa
