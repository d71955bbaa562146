/- CountSingles by the reference. -/
import Derived.Test.YtmckompikbechaaPL
namespace Go.Proofs.Ytmckompikbechaa
open Go.RowKit Go.Sort
set_option linter.unusedVariables false

theorem s.l1Least_any (a b : Nat) (w : World) : Calls Try.prog 89 #[.int .i64 a, .int .i64 b] w fun e w' => e = .returned (.int .i64 (min a b : Nat)) ∧ w = w' := by
  by_cases h : a < b
  · have h1 : (a : Int) < b := by omega
    have H : Hid (min a b = a) := by show _ = _; omega
    rw [H.out]
    go_enter Try.func89, Try.ntmps89
    go_wp2
    go_ret
    exact ⟨rfl, rfl⟩
  · have h1 : ¬ (a : Int) < b := by omega
    have H : Hid (min a b = b) := by show _ = _; omega
    rw [H.out]
    go_enter Try.func89, Try.ntmps89
    go_wp2
    go_ret
    exact ⟨rfl, rfl⟩

def famC (d : CoD) (f i : Nat) : Nat := cntF (famE d) f (List.range i)
theorem famC_succ (d : CoD) (f i : Nat) : famC d f (i + 1) = famC d f i + (if famE d i = f then 1 else 0) := by
  unfold famC
  rw [List.range_succ, cntF_snoc]
theorem famC_le (d : CoD) (f i : Nat) : famC d f i ≤ i := by
  unfold famC cntF
  have := List.length_filter_le (fun i => famE d i == f) (List.range i)
  rwa [List.length_range] at this
/-- The row of one family while an element is taken in: from behind. -/
def stepB (c k x : Nat) : Nat := if k < x then bin (c + 1) x else bin c x
theorem stepB_start {c n x : Nat} (h : x ≤ n) : stepB c n x = bin c x := by unfold stepB; rw [if_neg (by omega)]
theorem stepB_end (c x : Nat) : stepB c 0 x = bin (c + 1) x := by
  unfold stepB
  split
  · rfl
  · have : x = 0 := by omega
    subst this
    rw [bin_zero, bin_zero]
theorem stepB_other {c k x : Nat} (h : x ≠ k + 1) : stepB c k x = stepB c (k + 1) x := by
  unfold stepB
  by_cases h1 : k + 1 < x
  · rw [if_pos (by omega), if_pos h1]
  · rw [if_neg (by omega), if_neg h1]
theorem stepB_at (c k : Nat) : stepB c k (k + 1) = stepB c (k + 1) (k + 1) + stepB c (k + 1) k := by
  unfold stepB
  rw [if_pos (by omega), if_neg (by omega), if_neg (by omega), bin_succ]
  omega
theorem stepB_le {c : Nat} (h : c < 24) (k x : Nat) : stepB c k x ≤ 16777216 := by
  unfold stepB
  split
  · exact bin24 (by omega) _
  · exact bin24 (by omega) _
/-- The next row while the reference works. -/
def nextP (g : Nat → Nat) (p : Nat) (k x : Nat) : Nat := if x < k then g x else if x = k then p else 0

set_option maxRecDepth 100000 in
set_option maxHeartbeats 4000000 in
theorem s.CountSingles_law (w : World) (v : Value) (d : CoD) (n0 : Int) (h : kC.rd w v d) (hok : kC.ok d) (_hn : InR n0) :
    Calls Try.prog 34 #[v, .int .i64 n0] w fun e w' => e = .returned (.tuple #[.int .i64 (countF d n0).1, .bool (countF d n0).2]) ∧ Ext w w' := by
  obtain ⟨Ac, cc, Al, cl, rfl, hle, hll⟩ := kC.lr h
  obtain ⟨F, hF⟩ : ∃ F, Hid (countF d n0 = F) := ⟨_, rfl⟩
  rw [hF.out]
  have LI := hide hll
  have HL := hide hle
  have a1 := hll.1; have a2 := hll.2.1
  have a3 := hle.1; have a4 := hle.2.1
  obtain ⟨nc, NC⟩ : ∃ z, Hid (d.1.length = z) := ⟨_, rfl⟩
  obtain ⟨nl, NL⟩ : ∃ z, Hid (d.2.1.length = z) := ⟨_, rfl⟩
  obtain ⟨r, RN⟩ : ∃ z, Hid (d.2.2.1 = z) := ⟨_, rfl⟩
  obtain ⟨b, BN⟩ : ∃ z, Hid (d.2.2.2.1 = z) := ⟨_, rfl⟩
  obtain ⟨p, PN⟩ : ∃ z, Hid (d.2.2.2.2.1 = z) := ⟨_, rfl⟩
  obtain ⟨f, FN⟩ : ∃ z, Hid (d.2.2.2.2.2 = z) := ⟨_, rfl⟩
  have SZE : Hid (∀ f, famC d f nc = szE d f) := fun f => by rw [← NC.out]; rfl
  rw [NC.out, NL.out, RN.out, BN.out, PN.out, FN.out] at h ⊢
  rw [NL.out] at a1
  rw [NC.out] at a3
  obtain ⟨W0, hW0⟩ : ∃ W0, Hid (W0 = w.alloc (.cells #[.slice Ac nc cc, .slice Al nl cl, .int .i64 r, .int .i64 b, .int .i64 p, .int .i64 f] 59)) := ⟨_, rfl⟩
  have X0 : Hid (Ext w W0) := by rw [hW0.out]; exact Ext.alloc w _
  have B0 : Hid (Blk W0 w.heap.size #[.slice Ac nc cc, .slice Al nl cl, .int .i64 r, .int .i64 b, .int .i64 p, .int .i64 f] 59) := by rw [hW0.out]; exact Blk.new rfl _ _
  have CQ := hide (s.pnAsked_m W0 _ d n0 (kC.rd_ext h X0.out) hok)
  clear h hok hll hle
  go_enter Try.func34, Try.ntmps34
  go_wp2_with fail
  rw [← hW0.out]
  clear hW0
  refine CQ.out.mono ?_
  rintro e w1 ⟨rfl, x1⟩
  have X1 := hide (X0.out.trans x1)
  have B1 := hide (B0.out.ext x1)
  clear x1 CQ X0 B0
  cases hc : askB d n0
  · have HF : Hid (F = (0, false)) := by show _ = _; rw [← hF.out]; unfold countF; rw [if_neg (by rw [show (codeB d && inB 1 14 n0) = askB d n0 from rfl, hc]; decide)]
    clear hc
    go_wp2
    go_ret2
    rw [HF.out]
    exact ⟨rfl, X1.out⟩
  have HF : Hid (F = (((cntW d 5 n0.toNat : Nat) : Int), true)) := by show _ = _; rw [← hF.out]; unfold countF; exact if_pos hc
  unfold askB at hc
  rw [Bool.and_eq_true] at hc
  have HC := hide (codeB_ok hc.1)
  have hb := inB_ok hc.2
  obtain ⟨n, hn⟩ : ∃ n : Nat, n0 = n := ⟨n0.toNat, by omega⟩
  subst hn
  rw [Int.toNat_natCast] at HF
  have n1 : 1 ≤ n := by omega
  have n14 : n ≤ 14 := by omega
  have l5 := HC.out.lim
  rw [NL.out] at l5
  subst l5
  have h24 := HC.out.n2
  rw [NC.out] at h24
  clear hc hb hF
  have WB := hide (fun f (hf : f ≤ 5) => cntW_le HC.out hf)
  have SB := hide (fun f (hf : f < 5) => show szE d f ≤ 24 by have := szE_le HC.out hf; omega)
  have MKR := hide (fun w => run_make_row' (P := Try.prog) 51 3 (.int .i64 0) 8 Try.underlying51 (by kernel_rfl) rfl .i64 .i64 (n + 1) (by omega) (by omega) w)
  have nn : ((n : Int) + 1) = ((n + 1 : Nat) : Int) := by omega
  rw [← nn] at MKR
  clear nn
  have cm0 : Hid ((madeCells #[Value.int .i64 0] (n + 1))[0]? = some (.int .i64 0)) := by
    show _ = _
    have h := congrArg (·[0]?) (made_zeroR (n + 1))
    simpa using h
  obtain ⟨W1, hW1⟩ : ∃ W1, Hid (W1 = w1.alloc (.cells ((madeCells #[.int .i64 0] (n + 1)).setIfInBounds 0 (.int .i64 1)) 3)) := ⟨_, rfl⟩
  have XA : Hid (Ext w1 W1) := by rw [hW1.out]; exact Ext.alloc _ _
  have OA : Hid (OwnI 3 W1 w1.heap.size (some ⟨w1.heap.size, 0, none⟩) (n + 1) (n + 1) (rowN (cntW d 0) n)) := by rw [hW1.out]; exact OwnI.made1 w1 n (by omega) (Nat.le_refl _)
  have z1 := X1.out.size
  have zl := B1.out.lt
  have cm := cm0.out
  have mkr := MKR.out
  go_wp2
  rw [← hW1.out]
  clear hW1 cm mkr
  obtain ⟨bl, ol, rfl, hbl, hcl⟩ := SlI.cells LI.out.sl (by have := HC.out.lim; omega)
  have CLm : Hid (∀ (wq : World), Ext w wq → ∀ f, f < 5 → wq.cell? ⟨bl, ol + f, none⟩ = some (.int .i64 (d.2.1.getD f 0))) := fun wq xq f hf => (xq.cell hbl).trans (hcl f (by have := HC.out.lim; omega))
  clear hcl
  go_loopw [6, 7] (fun o i0 wr => ∃ (ff g : Nat), ff ≤ 5 ∧ i0 = .int .i64 ff ∧ o = .slice (some ⟨g, 0, none⟩) (n + 1) (n + 1) ∧ OwnI 3 wr w1.heap.size (some ⟨g, 0, none⟩) (n + 1) (n + 1) (rowN (cntW d ff) n) ∧ Ext w1 wr) (fun _ i0 _ => 5 - (intOf i0).toNat)
  case atStart => exact ⟨0, w1.heap.size, Nat.zero_le _, rfl, rfl, OA.out, XA.out⟩
  case round =>
    obtain ⟨ff, g, hf5, rfl, rfl, hw, hx⟩ := hrel
    clear OA XA
    have OW := hide hw
    have HX := hide hx
    clear hw hx
    obtain ⟨wo, rfl⟩ : ∃ wo : World, wo = wr := ⟨_, rfl⟩
    have zo := HX.out.size
    by_cases hlt : ff < 5
    · have WBf := hide (WB.out ff (by omega))
      have SBf := SB.out ff hlt
      obtain ⟨w3, hw3⟩ : ∃ w3, Hid (w3 = wo.alloc (.cells ((madeCells #[.int .i64 0] (n + 1)).setIfInBounds 0 (.int .i64 1)) 3)) := ⟨_, rfl⟩
      have X3 : Hid (Ext wo w3) := by rw [hw3.out]; exact Ext.alloc _ _
      have ON : Hid (OwnI 3 w3 w1.heap.size (some ⟨wo.heap.size, 0, none⟩) (n + 1) (n + 1) (rowN (bin (famC d ff 0)) n)) := by
        rw [show rowN (bin (famC d ff 0)) n = rowN (fun x => if x = 0 then 1 else 0) n from rowN_congr (fun x _ => by cases x <;> rfl), hw3.out]
        exact OwnI.made1 wo n (by omega) zo
      have gw : g < wo.heap.size := by
        rcases OwnI.form OW.out with ⟨h, _⟩ | ⟨g', h, _, h2, _⟩
        · cases h
        · injection h with h; injection h with h; subst h; exact h2
      have OW3 := hide (OwnI.below OW.out X3.out (Nat.le_refl _))
      have HX3 := hide (HX.out.trans X3.out)
      have B3 := hide (B1.out.ext HX3.out)
      have mkr := MKR.out wo
      have cm := cm0.out
      have cB := B3.out.cell
      rw [hw3.out] at cB
      have i1 : (ff : Int) < 5 := by omega
      go_wp2
      rw [← hw3.out]
      clear mkr cm cB hw3
      obtain ⟨G, hG⟩ : ∃ G, Hid (G = wo.heap.size) := ⟨_, rfl⟩
      rw [← hG.out] at ON gw
      rw [← hG.out]
      have Gg : w1.heap.size ≤ G := by rw [hG.out]; exact zo
      go_loopw [36] (fun i0 wr => ∃ (i : Nat), i ≤ nc ∧ i0 = .int .i64 i ∧ OwnI 3 wr w1.heap.size (some ⟨G, 0, none⟩) (n + 1) (n + 1) (rowN (bin (famC d ff i)) n) ∧ OwnI 3 wr w1.heap.size (some ⟨g, 0, none⟩) (n + 1) (n + 1) (rowN (cntW d ff) n) ∧ Ext w1 wr) (fun i0 _ => nc - (intOf i0).toNat)
      case atStart => exact ⟨0, Nat.zero_le _, rfl, ON.out, OW3.out, HX3.out⟩
      case round =>
        obtain ⟨i, hi, rfl, hn', hw', hx'⟩ := hrel
        clear ON OW3 HX3
        have ON := hide hn'
        have OW3 := hide hw'
        have HX3 := hide hx'
        clear hn' hw' hx'
        obtain ⟨w4, rfl⟩ : ∃ w4 : World, w4 = wr := ⟨_, rfl⟩
        have z4 := HX3.out.size
        have Gw : G < w4.heap.size := by
          rcases OwnI.form ON.out with ⟨h, _⟩ | ⟨g', h, _, h2, _⟩
          · cases h
          · injection h with h; injection h with h; subst h; exact h2
        by_cases hli : i < nc
        · obtain ⟨x, hxk⟩ : ∃ x, Hid (d.1[i]? = some x) := get_ex d.1 i (by rw [NC.out]; exact hli)
          obtain ⟨bb, off, rfl, hbb, q0, q1, q2, q3, -⟩ := (HL.out.ext (X1.out.trans HX3.out) (Nat.le_refl _)).element i x hxk.out
          have eb := elB_ok (HC.out.els i x hxk.out)
          obtain ⟨fa, hfa⟩ : ∃ fa : Nat, x.2.1 = (fa : Int) := ⟨x.2.1.toNat, by omega⟩
          have FE : Hid (famE d i = fa) := by show _ = _; rw [famE_eq hxk.out, hfa, Int.toNat_natCast]
          have FSU := hide (famC_succ d ff i)
          rw [FE.out] at FSU
          have cl24 := famC_le d ff i
          obtain ⟨c, hc⟩ : ∃ c, Hid (famC d ff i = c) := ⟨_, rfl⟩
          rw [hc.out] at ON FSU cl24
          obtain ⟨W5, hW5⟩ : ∃ W5, Hid (W5 = w4.alloc (.cells #[.string (bs x.1), .int .i64 x.2.1, .int .i64 x.2.2.1, .int .i64 x.2.2.2] 109)) := ⟨_, rfl⟩
          have X5 : Hid (Ext w4 W5) := by rw [hW5.out]; exact Ext.alloc _ _
          have B5 : Hid (Blk W5 w4.heap.size #[.string (bs x.1), .int .i64 x.2.1, .int .i64 x.2.2.1, .int .i64 x.2.2.2] 109) := by rw [hW5.out]; exact Blk.new rfl _ _
          have O5 : Hid (OwnI 3 W5 w1.heap.size (some ⟨G, 0, none⟩) (n + 1) (n + 1) (rowN (stepB c n) n)) := by
            rw [show rowN (stepB c n) n = rowN (bin c) n from rowN_congr (fun x hx => stepB_start hx)]
            exact OwnI.below ON.out X5.out (Nat.le_refl _)
          have OW5 := hide (OwnI.below OW3.out X5.out (Nat.le_refl _))
          have HX5 := hide (HX3.out.trans X5.out)
          rw [hfa] at q1 hW5 B5
          generalize bs x.1 = x0 at *
          generalize x.2.2.1 = x2 at *
          generalize x.2.2.2 = x3 at *
          have ii : (i : Int) < nc := by omega
          clear hfa eb
          go_wp2
          rw [← hW5.out]
          clear hW5 q0 q1 q2 q3
          go_loopw [11] (fun i0 wr => ∃ (k : Nat), k ≤ n ∧ i0 = .int .i64 k ∧ OwnI 3 wr w1.heap.size (some ⟨G, 0, none⟩) (n + 1) (n + 1) (rowN (stepB c k) n) ∧ (fa ≠ ff → k = n) ∧ Blk wr w4.heap.size #[.string x0, .int .i64 fa, .int .i64 x2, .int .i64 x3] 109 ∧ OwnI 3 wr w1.heap.size (some ⟨g, 0, none⟩) (n + 1) (n + 1) (rowN (cntW d ff) n) ∧ Ext w1 wr) (fun i0 _ => (intOf i0).toNat)
          case atStart => exact ⟨n, Nat.le_refl _, rfl, O5.out, fun _ => rfl, B5.out, OW5.out, HX5.out⟩
          case round =>
            obtain ⟨k, hk, rfl, hn', hkn, hb5, hw', hx'⟩ := hrel
            clear O5 OW5 HX5 B5
            have ON5 := hide hn'
            have OW5 := hide hw'
            have HX5 := hide hx'
            have B5 := hide hb5
            have KN := hide hkn
            clear hn' hw' hx' hb5 hkn
            have c5 := B5.out.cell
            by_cases hgo : 0 < k ∧ fa = ff
            · obtain ⟨hk0, hfe⟩ := hgo
              obtain rfl : ff = fa := hfe.symm
              obtain ⟨k', rfl⟩ : ∃ k', k = k' + 1 := ⟨k - 1, by omega⟩
              have cK := ON5.out.cell (k' + 1) (by omega)
              have cJ := ON5.out.cell k' (by omega)
              rw [rowN_at _ (by omega)] at cK cJ
              have fK := ON5.out.free (k' + 1)
              have AT := hide (stepB_at c k')
              have bK := stepB_le (c := c) (by omega) (k' + 1) (k' + 1)
              have bJ := stepB_le (c := c) (by omega) (k' + 1) k'
              have RS : Hid (rowN (stepB c k') n = (rowN (stepB c (k' + 1)) n).set (k' + 1) ((stepB c (k' + 1) (k' + 1) + stepB c (k' + 1) k' : Nat) : Int)) := by
                show _ = _
                rw [rowN_set (g := stepB c (k' + 1)) (show k' + 1 ≤ n by omega) (fun x _ hx => stepB_other hx), AT.out]
              generalize stepB c (k' + 1) (k' + 1) = P at *
              generalize stepB c (k' + 1) k' = Q at *
              have RC : Hid (((P + Q : Nat) : Int) = (P : Int) + (Q : Int)) := by show _ = _; rw [Int.natCast_add]
              rw [RC.out] at RS
              have kw1 : IntKind.i64.wrap ((P : Int) + (Q : Int)) = (P : Int) + (Q : Int) := IntWalk.i64_in _ (by omega)
              have e1 : (k' : Int) < n := by omega
              clear AT
              go_wp2
              go_region
              all_goals
                have O6 : Hid (OwnI 3 ((wr.setCell ⟨G, k' + 1, none⟩ (.int .i64 ((P : Int) + (Q : Int)))).drew) w1.heap.size (some ⟨G, 0, none⟩) (n + 1) (n + 1) (rowN (stepB c k') n)) := by
                  rw [RS.out]
                  exact Own.drew (OwnI.set ON5.out (k' + 1) _)
                have OW6 : Hid (OwnI 3 ((wr.setCell ⟨G, k' + 1, none⟩ (.int .i64 ((P : Int) + (Q : Int)))).drew) w1.heap.size (some ⟨g, 0, none⟩) (n + 1) (n + 1) (rowN (cntW d ff) n)) := Own.drew (Own.far OW5.out (fun a ha => by injection ha with ha; subst ha; show g ≠ G; omega) _)
                have B6 : Hid (Blk ((wr.setCell ⟨G, k' + 1, none⟩ (.int .i64 ((P : Int) + (Q : Int)))).drew) w4.heap.size #[.string x0, .int .i64 ff, .int .i64 x2, .int .i64 x3] 109) := (B5.out.far (by show w4.heap.size ≠ G; omega) _).ext (Ext.drew _)
                have X6 : Hid (Ext w1 ((wr.setCell ⟨G, k' + 1, none⟩ (.int .i64 ((P : Int) + (Q : Int)))).drew)) := Ext.trans (Below.setCell HX5.out (by show _ ≤ G; exact Gg) _) (Ext.drew _)
                clear kw1 cK cJ fK c5
                generalize (wr.setCell ⟨G, k' + 1, none⟩ (.int .i64 ((P : Int) + (Q : Int)))).drew = w6 at *
                go_wp2
                go_roundw
                case rel => exact ⟨k', by omega, rfl, O6.out, fun h => absurd rfl h, B6.out, OW6.out, X6.out⟩
                case measure => simp [intOf]
            · have RW : Hid (rowN (stepB c k) n = rowN (bin (famC d ff (i + 1))) n) := by
                show _ = _
                by_cases hfe : fa = ff
                · have hk0 : k = 0 := by
                    apply Classical.byContradiction
                    intro h
                    exact hgo ⟨by omega, hfe⟩
                  rw [FSU.out, if_pos hfe, hk0]
                  exact rowN_congr (fun x _ => stepB_end c x)
                · rw [FSU.out, if_neg hfe, KN.out hfe]
                  exact rowN_congr (fun x hx => stepB_start hx)
              rw [RW.out] at ON5
              by_cases h0 : 0 < k
              · have e1 : ((fa : Int) == (ff : Int)) = false := by
                  have : fa ≠ ff := fun h => hgo ⟨h0, h⟩
                  simp; omega
                clear hgo
                go_wp2
                go_roundw
                case rel => exact ⟨i + 1, by omega, by go_num, ON5.out, OW5.out, HX5.out⟩
                case measure => simp [intOf]; omega
              · clear hgo
                go_wp2
                go_roundw
                case rel => exact ⟨i + 1, by omega, by go_num, ON5.out, OW5.out, HX5.out⟩
                case measure => simp [intOf]; omega
        · have ei : nc = i := by omega
          subst ei
          rw [SZE.out] at ON
          obtain ⟨sq, hs⟩ : ∃ sq, Hid (szE d ff = sq) := ⟨_, rfl⟩
          rw [hs.out] at ON SBf
          have lb := limE_eq HC.out hlt
          obtain ⟨lm, hlm⟩ : ∃ lm, Hid (limE d ff = lm) := ⟨_, rfl⟩
          have lb1 := hide lb.1
          rw [hlm.out] at lb1
          clear lb
          obtain ⟨ways, hwy⟩ : ∃ ways, Hid (cntW d ff = ways) := ⟨_, rfl⟩
          have NW := hide (fun x => cntW_succ d ff x)
          rw [hwy.out, hs.out, hlm.out] at NW
          rw [hwy.out] at OW3 WBf
          obtain ⟨w6, hw6⟩ : ∃ w6, Hid (w6 = w4.alloc (.cells (madeCells #[.int .i64 0] (n + 1)) 3)) := ⟨_, rfl⟩
          have X6 : Hid (Ext w4 w6) := by rw [hw6.out]; exact Ext.alloc _ _
          have OT : Hid (OwnI 3 w6 w1.heap.size (some ⟨w4.heap.size, 0, none⟩) (n + 1) (n + 1) (rowN (nextP (cntW d (ff + 1)) 0 0) n)) := by
            rw [show rowN (nextP (cntW d (ff + 1)) 0 0) n = rowN (fun _ => 0) n from rowN_congr (fun x _ => by unfold nextP; rw [if_neg (by omega)]; split <;> rfl), rowN_zero, hw6.out]
            exact OwnI.made w4 (n + 1) (by omega) z4
          have ON6 := hide (OwnI.below ON.out X6.out (Nat.le_refl _))
          have OW6 := hide (OwnI.below OW3.out X6.out (Nat.le_refl _))
          have HX6 := hide (HX3.out.trans X6.out)
          have mkr := MKR.out w4
          rw [← hw6.out] at mkr
          go_wp2
          clear mkr hw6
          obtain ⟨H, hH⟩ : ∃ H, Hid (H = w4.heap.size) := ⟨_, rfl⟩
          rw [← hH.out] at OT Gw
          rw [← hH.out]
          have Hg : w1.heap.size ≤ H := by rw [hH.out]; exact z4
          have gH : g ≠ H := by omega
          have GH : G ≠ H := by omega
          go_loopw [68] (fun i0 wr => ∃ (k : Nat), k ≤ n + 1 ∧ i0 = .int .i64 k ∧ OwnI 3 wr w1.heap.size (some ⟨H, 0, none⟩) (n + 1) (n + 1) (rowN (nextP (cntW d (ff + 1)) 0 k) n) ∧ OwnI 3 wr w1.heap.size (some ⟨G, 0, none⟩) (n + 1) (n + 1) (rowN (bin sq) n) ∧ OwnI 3 wr w1.heap.size (some ⟨g, 0, none⟩) (n + 1) (n + 1) (rowN ways n) ∧ Ext w1 wr) (fun i0 _ => n + 1 - (intOf i0).toNat)
          case atStart => exact ⟨0, Nat.zero_le _, rfl, OT.out, ON6.out, OW6.out, HX6.out⟩
          case round =>
            obtain ⟨k, hk, rfl, ht', hn', hw', hx'⟩ := hrel
            clear OT ON6 OW6 HX6
            have OT := hide ht'
            have ON6 := hide hn'
            have OW6 := hide hw'
            have HX6 := hide hx'
            clear ht' hn' hw' hx'
            obtain ⟨w7, rfl⟩ : ∃ w7 : World, w7 = wr := ⟨_, rfl⟩
            by_cases hlk : k < n + 1
            · have ik : (k : Int) < (n : Int) + 1 := by omega
              go_wp2
              go_loopw [14] (fun i0 wr => ∃ (j : Nat), j ≤ min k lm + 1 ∧ i0 = .int .i64 j ∧ OwnI 3 wr w1.heap.size (some ⟨H, 0, none⟩) (n + 1) (n + 1) (rowN (nextP (cntW d (ff + 1)) (sumTo (fun j => ways (k - j) * bin sq j) j) k) n) ∧ OwnI 3 wr w1.heap.size (some ⟨G, 0, none⟩) (n + 1) (n + 1) (rowN (bin sq) n) ∧ OwnI 3 wr w1.heap.size (some ⟨g, 0, none⟩) (n + 1) (n + 1) (rowN ways n) ∧ Ext w1 wr) (fun i0 _ => n + 2 - (intOf i0).toNat)
              case atStart => exact ⟨0, Nat.zero_le _, rfl, OT.out, ON6.out, OW6.out, HX6.out⟩
              case round =>
                obtain ⟨j, hj, rfl, ht', hn', hw', hx'⟩ := hrel
                clear OT ON6 OW6 HX6
                have OT := hide ht'
                have ON6 := hide hn'
                have OW6 := hide hw'
                have HX6 := hide hx'
                clear ht' hn' hw' hx'
                have cB := (B1.out.ext HX6.out).cell
                have cL := CLm.out wr (X1.out.trans HX6.out) ff hlt
                rw [← lb1.out] at cL
                obtain ⟨M, hM⟩ : ∃ M, Hid (min k lm = M) := ⟨_, rfl⟩
                have mk1 : M ≤ k := by rw [← hM.out]; omega
                rw [hM.out] at hj
                have LE : Hid (∀ w, Calls Try.prog 89 #[.int .i64 k, .int .i64 lm] w fun e w' => e = .returned (.int .i64 (M : Nat)) ∧ w = w') := fun w => by rw [← hM.out]; exact s.l1Least_any k lm w
                by_cases hlj : j ≤ M
                · have lj : (j : Int) ≤ M := by omega
                  have kj : (k : Int) - j = ((k - j : Nat) : Int) := by omega
                  have KJ := hide kj
                  have cT := OT.out.cell k (by omega)
                  have cN := ON6.out.cell j (by omega)
                  have cW := OW6.out.cell (k - j) (by omega)
                  rw [rowN_at _ (by omega)] at cT cN cW
                  rw [show nextP (cntW d (ff + 1)) (sumTo (fun j => ways (k - j) * bin sq j) j) k k = sumTo (fun j => ways (k - j) * bin sq j) j by unfold nextP; rw [if_neg (by omega), if_pos rfl]] at cT
                  have fT := OT.out.free k
                  have sb := conv_le (ways := ways) sq lm k j WBf.out
                  have sb2 : 16777216 * 2 ^ sq ≤ 281474976710656 := Nat.le_trans (Nat.mul_le_mul_left _ (Nat.pow_le_pow_right (by decide) SBf)) (by decide)
                  have wb := WBf.out (k - j)
                  have bb9 := bin24 SBf j
                  have SS : Hid (sumTo (fun j => ways (k - j) * bin sq j) (j + 1) = sumTo (fun j => ways (k - j) * bin sq j) j + ways (k - j) * bin sq j) := rfl
                  have RS : Hid (rowN (nextP (cntW d (ff + 1)) (sumTo (fun j => ways (k - j) * bin sq j) (j + 1)) k) n = (rowN (nextP (cntW d (ff + 1)) (sumTo (fun j => ways (k - j) * bin sq j) j) k) n).set k ((sumTo (fun j => ways (k - j) * bin sq j) j + ways (k - j) * bin sq j : Nat) : Int)) := by
                    show _ = _
                    rw [rowN_set (g := nextP (cntW d (ff + 1)) (sumTo (fun j => ways (k - j) * bin sq j) j) k) (g' := nextP (cntW d (ff + 1)) (sumTo (fun j => ways (k - j) * bin sq j) (j + 1)) k) (show k ≤ n by omega) (fun x _ hx => by unfold nextP; rw [if_neg hx, if_neg hx])]
                    congr 2
                    unfold nextP
                    rw [if_neg (by omega), if_pos rfl]
                    rfl
                  clear SS
                  generalize sumTo (fun j => ways (k - j) * bin sq j) j = S at *
                  generalize hS' : sumTo (fun j => ways (k - j) * bin sq j) (j + 1) = S' at *
                  have HS := hide hS'
                  clear hS'
                  generalize bin sq j = Bj at *
                  generalize ways (k - j) = Wj at *
                  have sbS : S ≤ 281474976710656 := Nat.le_trans sb sb2
                  clear sb sb2
                  have p0 : (0 : Int) ≤ (Wj : Int) * (Bj : Int) := Int.mul_nonneg (by omega) (by omega)
                  have p1 : (Wj : Int) * (Bj : Int) ≤ (Wj : Int) * 16777216 := Int.mul_le_mul_of_nonneg_left (by omega) (by omega)
                  have p2 : (Wj : Int) * (Bj : Int) ≤ 281474976710656 := by omega
                  have RC : Hid (((S + Wj * Bj : Nat) : Int) = (S : Int) + (Wj : Int) * (Bj : Int)) := by show _ = _; rw [Int.natCast_add, Int.natCast_mul]
                  rw [RC.out] at RS
                  have e0 : 0 ≤ (k : Int) - j := by omega
                  have e1 : (k : Int) - j < (n : Int) + 1 := by omega
                  have e3 : ((k : Int) - j).toNat = k - j := by omega
                  have kw1 : IntKind.i64.wrap ((k : Int) - j) = (k : Int) - j := IntWalk.i64_in _ (by omega)
                  have kw2 : IntKind.i64.wrap ((Wj : Int) * (Bj : Int)) = (Wj : Int) * (Bj : Int) := IntWalk.i64_in _ (by omega)
                  have kw3 : IntKind.i64.wrap ((S : Int) + (Wj : Int) * (Bj : Int)) = (S : Int) + (Wj : Int) * (Bj : Int) := IntWalk.i64_in _ (by omega)
                  clear p1 kj
                  go_wp2_with (go_at_call 89; refine (LE.out _).mono ?_; rintro e w' ⟨rfl, rfl⟩)
                  clear cB cL
                  go_region
                  all_goals
                    have O7 : Hid (OwnI 3 ((wr.setCell ⟨H, k, none⟩ (.int .i64 ((S : Int) + (Wj : Int) * (Bj : Int)))).drew) w1.heap.size (some ⟨H, 0, none⟩) (n + 1) (n + 1) (rowN (nextP (cntW d (ff + 1)) S' k) n)) := by
                      rw [RS.out]
                      exact Own.drew (OwnI.set OT.out k _)
                    have G7 : Hid (OwnI 3 ((wr.setCell ⟨H, k, none⟩ (.int .i64 ((S : Int) + (Wj : Int) * (Bj : Int)))).drew) w1.heap.size (some ⟨G, 0, none⟩) (n + 1) (n + 1) (rowN (bin sq) n)) := Own.drew (Own.far ON6.out (fun a ha => by injection ha with ha; subst ha; exact GH) _)
                    have W7 : Hid (OwnI 3 ((wr.setCell ⟨H, k, none⟩ (.int .i64 ((S : Int) + (Wj : Int) * (Bj : Int)))).drew) w1.heap.size (some ⟨g, 0, none⟩) (n + 1) (n + 1) (rowN ways n)) := Own.drew (Own.far OW6.out (fun a ha => by injection ha with ha; subst ha; exact gH) _)
                    have X7 : Hid (Ext w1 ((wr.setCell ⟨H, k, none⟩ (.int .i64 ((S : Int) + (Wj : Int) * (Bj : Int)))).drew)) := Ext.trans (Below.setCell HX6.out (by show _ ≤ H; exact Hg) _) (Ext.drew _)
                    clear kw1 kw2 kw3 cT cN cW fT p0 p2
                    generalize (wr.setCell ⟨H, k, none⟩ (.int .i64 ((S : Int) + (Wj : Int) * (Bj : Int)))).drew = w8 at *
                    go_wp2
                    go_roundw
                    case rel => exact ⟨j + 1, by rw [hM.out]; omega, by go_num, by rw [HS.out]; exact O7.out, G7.out, W7.out, X7.out⟩
                    case measure => simp [intOf]; omega
                · have lj : (M : Int) < j := by omega
                  have AE : Hid (rowN (nextP (cntW d (ff + 1)) (sumTo (fun j => ways (k - j) * bin sq j) j) k) n = rowN (nextP (cntW d (ff + 1)) 0 (k + 1)) n) := by
                    show _ = _
                    have ej : j = min k lm + 1 := by rw [hM.out]; omega
                    subst ej
                    refine rowN_congr (fun x hx => ?_)
                    unfold nextP
                    by_cases h1 : x < k
                    · rw [if_pos h1, if_pos (by omega)]
                    · rw [if_neg h1]
                      by_cases h2 : x = k
                      · rw [if_pos h2, if_pos (by omega), h2, NW.out k]
                        rfl
                      · rw [if_neg h2, if_neg (by omega)]
                        split <;> rfl
                  rw [AE.out] at OT
                  go_wp2_with (go_at_call 89; refine (LE.out _).mono ?_; rintro e w' ⟨rfl, rfl⟩)
                  go_roundw
                  case rel => exact ⟨k + 1, by omega, by go_num, OT.out, ON6.out, OW6.out, HX6.out⟩
                  case measure => simp [intOf]; omega
            · have AE : Hid (rowN (nextP (cntW d (ff + 1)) 0 k) n = rowN (cntW d (ff + 1)) n) := by
                show _ = _
                exact rowN_congr (fun x hx => by unfold nextP; rw [if_pos (by omega)])
              rw [AE.out] at OT
              go_wp2
              go_roundw
              case rel => exact ⟨ff + 1, H, by omega, by go_num, rfl, OT.out, HX6.out⟩
              case measure => simp [intOf]; omega
    · have ek : ff = 5 := by omega
      subst ek
      have cN := OW.out.cell n (by omega)
      rw [rowN_at _ (Nat.le_refl _)] at cN
      go_wp2
      go_ret2
      rw [HF.out]
      exact ⟨rfl, X1.out.trans HX.out⟩
end Go.Proofs.Ytmckompikbechaa
