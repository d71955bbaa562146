/- PlanBound. -/
import Derived.Test.YtmckompikbechaaPF
namespace Go.Proofs.Ytmckompikbechaa
open Go.RowKit Go.Sort
set_option linter.unusedVariables false

theorem i.isCount_any (z : Int) (w : World) : Calls Try.prog 90 #[.int .i64 z] w fun e w' => e = .returned (.bool (inB 1 14 z)) ∧ w = w' := by
  go_enter Try.func90, Try.ntmps90
  go_wp2_with (go_at_call 74; refine (i.within_any _ _ _ _).mono ?_; rintro e w' ⟨rfl, rfl⟩)
  go_ret
  exact ⟨rfl, rfl⟩
def askB (d : CoD) (n : Int) : Bool := codeB d && inB 1 14 n
theorem inB_ok {lo hi n : Int} (h : inB lo hi n = true) : lo ≤ n ∧ n ≤ hi := by
  simpa only [inB, Bool.and_eq_true, decide_eq_true_eq] using h
set_option maxRecDepth 100000 in
theorem s.pnAsked_m (w : World) (v : Value) (d : CoD) (n : Int) (h : kC.rd w v d) (hok : kC.ok d) :
    Calls Try.prog 88 #[v, .int .i64 n] w fun e w' => e = .returned (.bool (askB d n)) ∧ Ext w w' := by
  obtain ⟨Ac, nc, cc, Al, nl, cl, r, b, p, f, rfl⟩ := kC.shape h
  obtain ⟨W0, hW0⟩ : ∃ W0, Hid (W0 = w.alloc (.cells #[.slice Ac nc cc, .slice Al nl cl, .int .i64 r, .int .i64 b, .int .i64 p, .int .i64 f] 59)) := ⟨_, rfl⟩
  have X0 : Hid (Ext w W0) := by rw [hW0.out]; exact Ext.alloc w _
  have CQ := hide (s.cdGood_m W0 _ d (kC.rd_ext h X0.out) hok)
  clear h
  obtain ⟨R, hR⟩ : ∃ R, Hid (askB d n = R) := ⟨_, rfl⟩
  rw [hR.out]
  go_enter Try.func88, Try.ntmps88
  go_wp2_with fail
  rw [← hW0.out]
  clear hW0
  refine CQ.out.mono ?_
  rintro e w1 ⟨rfl, x1⟩
  have X1 := hide (X0.out.trans x1)
  clear x1 CQ X0
  cases hc : codeB d
  · have HR : Hid (R = false) := by show _ = _; rw [← hR.out]; simp [askB, hc]
    clear hc
    go_wp2
    go_ret
    exact ⟨ret_bool HR.out.symm, X1.out⟩
  · have HR : Hid (R = inB 1 14 n) := by show _ = _; rw [← hR.out]; simp [askB, hc]
    clear hc
    go_wp2_with (go_at_call 68; refine (s.l1In_any _ _ _ _).mono ?_; rintro e w' ⟨rfl, rfl⟩)
    go_ret
    exact ⟨ret_bool HR.out.symm, X1.out⟩

theorem own_snoc {e : TypeId} {w : World} {lo m c : Nat} {A : Option Addr} {zs : List Int} {z : Int} (h : Own e w lo A (m + 1) c (zs.map (Value.int .i64) ++ [.int .i64 z])) : OwnI e w lo A (m + 1) c (zs ++ [z]) := own_conv h (Nat.le_refl _) rfl (by rw [List.map_append]; rfl)
theorem repl_snoc (zs : List Int) (j : Nat) (z : Int) : (zs ++ List.replicate j z) ++ [z] = zs ++ List.replicate (j + 1) z := by rw [List.append_assoc, List.replicate_succ']

set_option maxRecDepth 100000 in
set_option maxHeartbeats 4000000 in
theorem i.PlanBound_law (w : World) (v : Value) (d : CoD) (n : Int) (h : kC.rd w v d) (hok : kC.ok d) (_hn : InR n) :
    Calls Try.prog 42 #[v, .int .i64 n] w fun e w' => e = .returned (.tuple #[.int .i64 (planF d n).1, .bool (planF d n).2]) ∧ Ext w w' := by
  obtain ⟨Ac, cc, Al, cl, rfl, hle, _⟩ := kC.lr h
  obtain ⟨F, hF⟩ : ∃ F, Hid (planF d n = F) := ⟨_, rfl⟩
  rw [hF.out]
  obtain ⟨nc, NC⟩ : ∃ z, Hid (d.1.length = z) := ⟨_, rfl⟩
  obtain ⟨nl, NL⟩ : ∃ z, Hid (d.2.1.length = z) := ⟨_, rfl⟩
  obtain ⟨r, RN⟩ : ∃ z, Hid (d.2.2.1 = z) := ⟨_, rfl⟩
  obtain ⟨b, BN⟩ : ∃ z, Hid (d.2.2.2.1 = z) := ⟨_, rfl⟩
  obtain ⟨p, PN⟩ : ∃ z, Hid (d.2.2.2.2.1 = z) := ⟨_, rfl⟩
  obtain ⟨f, FN⟩ : ∃ z, Hid (d.2.2.2.2.2 = z) := ⟨_, rfl⟩
  rw [NC.out, NL.out, RN.out, BN.out, PN.out, FN.out] at h ⊢
  have HL := hide hle
  have a1 := hle.1; have a2 := hle.2.1
  rw [NC.out] at a1
  obtain ⟨W0, hW0⟩ : ∃ W0, Hid (W0 = w.alloc (.cells #[.slice Ac nc cc, .slice Al nl cl, .int .i64 r, .int .i64 b, .int .i64 p, .int .i64 f] 59)) := ⟨_, rfl⟩
  have X0 : Hid (Ext w W0) := by rw [hW0.out]; exact Ext.alloc w _
  have B0 : Hid (Blk W0 w.heap.size #[.slice Ac nc cc, .slice Al nl cl, .int .i64 r, .int .i64 b, .int .i64 p, .int .i64 f] 59) := by rw [hW0.out]; exact Blk.new rfl _ _
  have CQ := hide (i.IsCode_m W0 _ d (kC.rd_ext h X0.out) hok)
  clear h hle hok
  go_enter Try.func42, Try.ntmps42
  go_wp2_with fail
  rw [← hW0.out]
  clear hW0
  refine CQ.out.mono ?_
  rintro e w1 ⟨rfl, x1⟩
  have X1 := hide (X0.out.trans x1)
  have B1 := hide (B0.out.ext x1)
  clear x1 CQ X0 B0
  cases hc : codeB d
  · have HF : Hid (F = (0, false)) := by show _ = _; rw [← hF.out]; simp [planF, hc]
    clear hc
    go_wp2
    go_ret2
    rw [HF.out]
    exact ⟨rfl, X1.out⟩
  have HC := hide (codeB_ok hc)
  cases hi : inB 1 14 n
  · have HF : Hid (F = (0, false)) := by show _ = _; rw [← hF.out]; simp [planF, hi]
    have HI := hide hi
    clear hc hi
    go_wp2_with (go_at_call 90; refine (i.isCount_any _ _).mono ?_; rintro e w' ⟨rfl, rfl⟩; rw [HI.out])
    go_ret2
    rw [HF.out]
    exact ⟨rfl, X1.out⟩
  have HF : Hid (F = ((planS d n * (100 + b) + 99) / 100 + n, true)) := by show _ = _; rw [← hF.out, ← BN.out]; simp [planF, hc, hi]
  have HI := hide hi
  have hb := inB_ok hi
  have n1 := hb.1; have n2 := hb.2
  clear hc hi hb hF
  have h24 := HC.out.n2
  have h1c := HC.out.n1
  have hr := HC.out.rep
  have hbo := HC.out.bon
  rw [NC.out] at h24 h1c
  rw [RN.out] at hr
  rw [BN.out] at hbo
  obtain ⟨rN, hrN⟩ : ∃ rN : Nat, r = rN := ⟨r.toNat, by omega⟩
  subst hrN
  have r1 : 1 ≤ rN := by omega
  have r3 : rN ≤ 3 := by omega
  have hb0 := hbo.1; have hb1 := hbo.2
  clear hr hbo
  have BK := hide (fun k (hk : k ≤ nc) => show (basK d.1 rN k).length ≤ 72 by rw [basK_len _ _ _ (by rw [NC.out]; exact hk)]; exact Nat.le_trans (Nat.mul_le_mul (show k ≤ 24 by omega) r3) (by decide))
  have z1 := X1.out.size
  have XA := hide (X1.out.trans (Ext.alloc w1 (.cells #[] 3)))
  have BA := hide (B1.out.alloc (.cells #[] 3))
  have OA : Hid (OwnI 3 (w1.alloc (.cells #[] 3)) w1.heap.size (some ⟨w1.heap.size, 0, none⟩) 0 0 (basK d.1 rN 0)) := Own.empty w1 3 (Nat.le_refl _)
  have YA := hide (Ext.alloc w1 (.cells #[] 3))
  have cB := BA.out.cell
  go_wp2_with (go_at_call 90; refine (i.isCount_any _ _).mono ?_; rintro e w' ⟨rfl, rfl⟩; rw [HI.out])
  clear cB BA XA
  go_loopw [6, 22] (fun o i0 wr => ∃ (k m : Nat) (A' : Option Addr) (c' : Nat), k ≤ nc ∧ i0 = .int .i64 k ∧ o = .slice A' m c' ∧ OwnI 3 wr w1.heap.size A' m c' (basK d.1 rN k) ∧ Ext w1 wr) (fun _ i0 _ => nc - (intOf i0).toNat)
  case atStart => exact ⟨0, 0, _, _, Nat.zero_le _, rfl, rfl, OA.out, YA.out⟩
  case round =>
    obtain ⟨k, m, A', c', hk, rfl, rfl, hown, hx⟩ := hrel
    have HO := hide hown
    have HX := hide hx
    have oc1 := hown.capn; have oc2 := hown.capm
    clear hown hx OA YA
    have m72 : m ≤ 72 := by have h8 := BK.out k hk; rw [HO.out.len] at h8; exact h8
    obtain ⟨wo, rfl⟩ : ∃ wo : World, wo = wr := ⟨_, rfl⟩
    by_cases hlt : k < nc
    · obtain ⟨x, hxk⟩ : ∃ x, Hid (d.1[k]? = some x) := get_ex d.1 k (by rw [NC.out]; exact hlt)
      obtain ⟨bb, off, rfl, hbb, q0, q1, q2, q3, _⟩ := (HL.out.ext (X1.out.trans HX.out) (Nat.le_refl _)).element k x hxk.out
      have BS := hide (basK_succ (r := rN) hxk.out)
      have BKs := BK.out (k + 1) (by omega)
      rw [BS.out, List.length_append, HO.out.len, List.length_replicate] at BKs
      obtain ⟨W1, hW1⟩ : ∃ W1, Hid (W1 = wo.alloc (.cells #[.string (bs x.1), .int .i64 x.2.1, .int .i64 x.2.2.1, .int .i64 x.2.2.2] 109)) := ⟨_, rfl⟩
      have XW : Hid (Ext wo W1) := by rw [hW1.out]; exact Ext.alloc _ _
      have BW : Hid (Blk W1 wo.heap.size #[.string (bs x.1), .int .i64 x.2.1, .int .i64 x.2.2.1, .int .i64 x.2.2.2] 109) := by rw [hW1.out]; exact Blk.new rfl _ _
      have B2 := hide ((B1.out.ext HX.out).ext XW.out)
      have O2 : Hid (OwnI 3 W1 w1.heap.size A' m c' (basK d.1 rN k ++ List.replicate 0 (baseE x))) := by
        show OwnI _ _ _ _ _ _ _
        rw [List.replicate_zero, List.append_nil]
        exact HO.out.below XW.out (Nat.le_refl _)
      have zo := HX.out.size
      have zw := XW.out.size
      have BE : Hid (baseE x = x.2.2.2) := rfl
      rw [BE.out] at BS O2
      have Y2 := hide (HX.out.trans XW.out)
      have NE : Hid (∀ p, A' = some p → p.block ≠ wo.heap.size) := fun p hp => by
        rcases OwnI.form HO.out with ⟨h, _⟩ | ⟨g, h, _, h2, _⟩
        · rw [h] at hp; cases hp
        · rw [h] at hp; injection hp with hp; subst hp; simp; omega
      generalize bs x.1 = x0 at *
      generalize x.2.1 = x1 at *
      generalize x.2.2.1 = x2 at *
      generalize x.2.2.2 = Z at *
      have cB := B2.out.cell
      rw [hW1.out] at cB
      go_wp2
      rw [← hW1.out]
      clear hW1 q0 q1 q2 q3 cB
      go_loopw [6, 28] (fun o i0 wr => ∃ (j m' : Nat) (A9 : Option Addr) (c9 : Nat), j ≤ rN ∧ m' = m + j ∧ i0 = .int .i64 j ∧ o = .slice A9 m' c9 ∧ OwnI 3 wr w1.heap.size A9 m' c9 (basK d.1 rN k ++ List.replicate j Z) ∧ Blk wr wo.heap.size #[.string x0, .int .i64 x1, .int .i64 x2, .int .i64 Z] 109 ∧ (∀ p, A9 = some p → p.block ≠ wo.heap.size) ∧ Ext w1 wr) (fun _ i0 _ => rN - (intOf i0).toNat)
      case atStart => exact ⟨0, m, _, _, Nat.zero_le _, rfl, rfl, rfl, O2.out, BW.out, NE.out, Y2.out⟩
      case round =>
        obtain ⟨j, m', A9, c9, hj, hm', rfl, rfl, hown, hbw, hne, hx⟩ := hrel
        have HM : m' ≤ m + j := by omega
        have HM' := hide hm'
        have HO9 := hide hown
        have HX9 := hide hx
        have od1 := hown.capn; have od2 := hown.capm
        have BW9 := hide hbw
        have NE9 := hide hne
        clear hown hx O2 Y2 hm' hbw hne
        by_cases hlj : j < rN
        · have cW := BW9.out.cell
          have z9 := HX9.out.size
          have z8 := BW9.out.lt
          obtain ⟨L, hL⟩ : ∃ L, Hid (basK d.1 rN k ++ List.replicate j Z = L) := ⟨_, rfl⟩
          rw [hL.out] at HO9
          go_wp2_with (at_builtin; refine wpList_append_sl rfl (.tmp 30) (.tmp 33) rfl elem_int rfl rfl (lo := w1.heap.size) (Own.alloc HO9.out (.cells #[.int .i64 Z] 3)) (Sl.one wr (.int .i64 Z) 3) (one_int _) ?c1 ?c2 ?c3 ?_)
          case c1 => omega
          case c2 => omega
          case c3 => simp; omega
          intro A8 c8 w8 hap
          have Y8 := hide (hap.ext (HX9.out.trans (Ext.alloc wr _)) (Own.fromLo HO9.out))
          have BW8 := hide ((BW9.out.alloc (.cells #[.int .i64 Z] 3)).tchF (fp := (A9.map (·.block)).toList) (TchF.of_grown hap.grew (fun p hp => by rw [hp]; simp)) (fun hm => by obtain ⟨p, hp, he⟩ := mem_of_opt hm; exact NE9.out p hp he))
          have NE8 : Hid (∀ p, A8 = some p → p.block ≠ wo.heap.size) := fun p hp => by
            have h8 := hap.where_
            rw [hp] at h8
            rcases h8 with h8 | h8
            · cases hA : A9 with
              | none => rw [hA] at h8; cases h8
              | some q => rw [hA] at h8; simp at h8; rw [h8]; exact NE9.out q hA
            · simp at h8; omega
          have HAP := hide hap
          clear hap cW
          go_wp2
          go_roundw
          case rel => exact ⟨j + 1, m' + 1, A8, c8, by omega, by have := HM'.out; omega, by go_num, rfl, by rw [← repl_snoc, hL.out]; exact own_snoc HAP.out.own, BW8.out, NE8.out, Y8.out⟩
          case measure => simp [intOf]; omega
        · have ej : rN = j := by omega
          subst ej
          go_wp2
          go_roundw
          case rel => exact ⟨k + 1, m', A9, c9, by omega, by go_num, rfl, by rw [BS.out]; exact HO9.out, HX9.out⟩
          case measure => simp [intOf]; omega
    · have ek : nc = k := by omega
      subst ek
      have BL : Hid (basL d = basK d.1 rN nc) := by show _ = _; unfold basL; rw [RN.out, NC.out, Int.toNat_natCast]
      have m1 : 0 < m := by
        rw [← HO.out.len, basK_len _ _ _ (by rw [NC.out]; exact Nat.le_refl _)]
        exact Nat.mul_pos (by omega) (by omega)
      obtain ⟨g, rfl, hg1, hg2, _⟩ := OwnI.pos HO.out m1
      have BD := basK_bd HC.out rN nc
      rw [← BL.out] at BD HO
      have XO := hide (X1.out.trans HX.out)
      have BO := hide (B1.out.ext HX.out)
      have zo := HX.out.size
      have SO := hide (sortOwn_any g c' w1.heap.size m _ wo HO.out (by omega))
      go_wp2_with fail
      refine SO.out.mono ?_
      rintro e w2 ⟨rfl, o2, g2⟩
      have x2 : Ext w1 w2 := below_grown (A := some ⟨g, 0, none⟩) HX.out g2 (by omega) (fun p hp => by injection hp with hp; subst hp; exact hg1)
      have RO := hide (reverseOwn_any g c' w1.heap.size m _ w2 o2 (by omega))
      have X2 := hide x2
      clear x2 o2 g2 SO
      go_wp2_with fail
      refine RO.out.mono ?_
      rintro e w3 ⟨rfl, o3, g3⟩
      have z2 := X2.out.size
      have x3 : Ext w1 w3 := below_grown (A := some ⟨g, 0, none⟩) X2.out g3 (by omega) (fun p hp => by injection hp with hp; subst hp; exact hg1)
      rw [List.reverse_reverse] at o3
      have X3 := hide x3
      have B3 := hide (B1.out.ext x3)
      obtain ⟨q, hq⟩ : ∃ q : Nat, min (n + 4) (m : Int) = q := ⟨(min (n + 4) (m : Int)).toNat, by omega⟩
      have hqm : q ≤ m := by omega
      have hqn : (q : Int) ≤ n + 4 := by omega
      have SLQ : Sl w3 w3.heap.size (some ⟨g, 0, none⟩) q ((sortD (basL d)).take q |>.map (Value.int .i64)) := by
        have h8 := Sl.cutTo (k := q) o3.sl hqm
        rwa [← List.map_take] at h8
      have SMq : ∀ z ∈ (sortD (basL d)).take q, 0 ≤ z ∧ z ≤ 2000 := fun z hz => BD z ((sortD_perm _).mem_iff.1 (List.mem_of_mem_take hz))
      have SUM := hide (i.sumInts_any (some ⟨g, 0, none⟩) q c' w3.heap.size _ w3 SLQ (by omega) (small_of SMq))
      have PS : Hid (((sortD (basL d)).take q).sum = planS d n) := by
        show _ = _
        have hl : (sortD (basL d)).length = m := by rw [sortD_len]; exact HO.out.len
        unfold planS topS
        by_cases h9 : n + 4 ≤ (m : Int)
        · rw [show (n + 4).toNat = q by omega]
        · rw [List.take_of_length_le (by omega), List.take_of_length_le (by omega)]
      have sb := take_bd SMq
      rw [List.length_take, PS.out] at sb
      rw [PS.out] at SUM
      generalize planS d n = Sk at *
      have h0 : 0 ≤ Sk * (100 + b) := Int.mul_nonneg (by omega) (by omega)
      have h1 : Sk * (100 + b) ≤ Sk * 120 := Int.mul_le_mul_of_nonneg_left (by omega) (by omega)
      have h2 : Sk * (100 + b) ≤ 100000000 := by omega
      clear h1 x3 o3 g3 RO SLQ SMq BD
      have cB := B3.out.cell
      have HQ := hide hq
      have q0 : 0 ≤ min (n + 4) (m : Int) := by omega
      have q1 : min (n + 4) (m : Int) ≤ (c' : Int) := by omega
      have q2 : (min (n + 4) (m : Int)).toNat = q := by omega
      clear hq
      go_wp2_with (go_at_call 102; refine SUM.out.mono ?_; rintro e w4 ⟨rfl, rfl⟩)
      go_ret2
      rw [HF.out]
      exact ⟨rfl, X1.out.trans X3.out⟩
theorem tailS_bd {ys : List Int} (h : ∀ z ∈ ys, 0 ≤ z ∧ z ≤ 2000) (m k : Nat) : 0 ≤ tailS ys m k ∧ tailS ys m k ≤ 2000 * (ys.length : Int) := by
  unfold tailS
  have h1 := take_bd (l := (ys.take k).drop (ys.length - m)) (fun z hz => h z (List.mem_of_mem_take (List.mem_of_mem_drop hz)))
  have h2 : ((ys.take k).drop (ys.length - m)).length ≤ ys.length := by simp; omega
  omega
set_option maxRecDepth 100000 in
set_option maxHeartbeats 4000000 in
theorem s.PlanBound_law (w : World) (v : Value) (d : CoD) (n : Int) (h : kC.rd w v d) (hok : kC.ok d) (_hn : InR n) :
    Calls Try.prog 41 #[v, .int .i64 n] w fun e w' => e = .returned (.tuple #[.int .i64 (planF d n).1, .bool (planF d n).2]) ∧ Ext w w' := by
  obtain ⟨Ac, cc, Al, cl, rfl, hle, _⟩ := kC.lr h
  obtain ⟨F, hF⟩ : ∃ F, Hid (planF d n = F) := ⟨_, rfl⟩
  rw [hF.out]
  obtain ⟨nc, NC⟩ : ∃ z, Hid (d.1.length = z) := ⟨_, rfl⟩
  obtain ⟨nl, NL⟩ : ∃ z, Hid (d.2.1.length = z) := ⟨_, rfl⟩
  obtain ⟨r, RN⟩ : ∃ z, Hid (d.2.2.1 = z) := ⟨_, rfl⟩
  obtain ⟨b, BN⟩ : ∃ z, Hid (d.2.2.2.1 = z) := ⟨_, rfl⟩
  obtain ⟨p, PN⟩ : ∃ z, Hid (d.2.2.2.2.1 = z) := ⟨_, rfl⟩
  obtain ⟨f, FN⟩ : ∃ z, Hid (d.2.2.2.2.2 = z) := ⟨_, rfl⟩
  rw [NC.out, NL.out, RN.out, BN.out, PN.out, FN.out] at h ⊢
  have HL := hide hle
  have a1 := hle.1; have a2 := hle.2.1
  rw [NC.out] at a1
  obtain ⟨W0, hW0⟩ : ∃ W0, Hid (W0 = w.alloc (.cells #[.slice Ac nc cc, .slice Al nl cl, .int .i64 r, .int .i64 b, .int .i64 p, .int .i64 f] 59)) := ⟨_, rfl⟩
  have X0 : Hid (Ext w W0) := by rw [hW0.out]; exact Ext.alloc w _
  have B0 : Hid (Blk W0 w.heap.size #[.slice Ac nc cc, .slice Al nl cl, .int .i64 r, .int .i64 b, .int .i64 p, .int .i64 f] 59) := by rw [hW0.out]; exact Blk.new rfl _ _
  have CQ := hide (s.pnAsked_m W0 _ d n (kC.rd_ext h X0.out) hok)
  clear h hle hok
  go_enter Try.func41, Try.ntmps41
  go_wp2_with fail
  rw [← hW0.out]
  clear hW0
  refine CQ.out.mono ?_
  rintro e w1 ⟨rfl, x1⟩
  have X1 := hide (X0.out.trans x1)
  have B1 := hide (B0.out.ext x1)
  clear x1 CQ X0 B0
  cases hc : askB d n
  · have HF : Hid (F = (0, false)) := by show _ = _; rw [← hF.out]; unfold planF; rw [if_neg (by rw [show (codeB d && inB 1 14 n) = askB d n from rfl, hc]; decide)]
    clear hc
    go_wp2
    go_ret2
    rw [HF.out]
    exact ⟨rfl, X1.out⟩
  have HF : Hid (F = ((planS d n * (100 + b) + 99) / 100 + n, true)) := by show _ = _; rw [← hF.out, ← BN.out]; unfold planF; exact if_pos hc
  unfold askB at hc
  rw [Bool.and_eq_true] at hc
  have HC := hide (codeB_ok hc.1)
  have hb := inB_ok hc.2
  have n1 := hb.1; have n2 := hb.2
  clear hc hb hF
  have h24 := HC.out.n2
  have h1c := HC.out.n1
  have hr := HC.out.rep
  have hbo := HC.out.bon
  rw [NC.out] at h24 h1c
  rw [RN.out] at hr
  rw [BN.out] at hbo
  obtain ⟨rN, hrN⟩ : ∃ rN : Nat, r = rN := ⟨r.toNat, by omega⟩
  subst hrN
  have r1 : 1 ≤ rN := by omega
  have r3 : rN ≤ 3 := by omega
  have hb0 := hbo.1; have hb1 := hbo.2
  clear hr hbo
  have BK := hide (fun k (hk : k ≤ nc) => show (basK d.1 rN k).length ≤ 72 by rw [basK_len _ _ _ (by rw [NC.out]; exact hk)]; exact Nat.le_trans (Nat.mul_le_mul (show k ≤ 24 by omega) r3) (by decide))
  have z1 := X1.out.size
  have OA : Hid (OwnI 3 w1 w1.heap.size none 0 0 (basK d.1 rN 0)) := OwnI.nil
  have YA := hide (Ext.refl w1)
  have cB := B1.out.cell
  go_wp2
  clear cB
  go_loopw [6, 20] (fun o i0 wr => ∃ (k m : Nat) (A' : Option Addr) (c' : Nat), k ≤ nc ∧ i0 = .int .i64 k ∧ o = .slice A' m c' ∧ OwnI 3 wr w1.heap.size A' m c' (basK d.1 rN k) ∧ Ext w1 wr) (fun _ i0 _ => nc - (intOf i0).toNat)
  case atStart => exact ⟨0, 0, _, _, Nat.zero_le _, rfl, rfl, OA.out, YA.out⟩
  case round =>
    obtain ⟨k, m, A', c', hk, rfl, rfl, hown, hx⟩ := hrel
    have HO := hide hown
    have HX := hide hx
    have oc1 := hown.capn; have oc2 := hown.capm
    clear hown hx OA YA
    have m72 : m ≤ 72 := by have h8 := BK.out k hk; rw [HO.out.len] at h8; exact h8
    obtain ⟨wo, rfl⟩ : ∃ wo : World, wo = wr := ⟨_, rfl⟩
    by_cases hlt : k < nc
    · obtain ⟨x, hxk⟩ : ∃ x, Hid (d.1[k]? = some x) := get_ex d.1 k (by rw [NC.out]; exact hlt)
      obtain ⟨bb, off, rfl, hbb, q0, q1, q2, q3, _⟩ := (HL.out.ext (X1.out.trans HX.out) (Nat.le_refl _)).element k x hxk.out
      have BS := hide (basK_succ (r := rN) hxk.out)
      have BKs := BK.out (k + 1) (by omega)
      rw [BS.out, List.length_append, HO.out.len, List.length_replicate] at BKs
      obtain ⟨W1, hW1⟩ : ∃ W1, Hid (W1 = wo.alloc (.cells #[.string (bs x.1), .int .i64 x.2.1, .int .i64 x.2.2.1, .int .i64 x.2.2.2] 109)) := ⟨_, rfl⟩
      have XW : Hid (Ext wo W1) := by rw [hW1.out]; exact Ext.alloc _ _
      have BW : Hid (Blk W1 wo.heap.size #[.string (bs x.1), .int .i64 x.2.1, .int .i64 x.2.2.1, .int .i64 x.2.2.2] 109) := by rw [hW1.out]; exact Blk.new rfl _ _
      have B2 := hide ((B1.out.ext HX.out).ext XW.out)
      have O2 : Hid (OwnI 3 W1 w1.heap.size A' m c' (basK d.1 rN k ++ List.replicate 0 (baseE x))) := by
        show OwnI _ _ _ _ _ _ _
        rw [List.replicate_zero, List.append_nil]
        exact HO.out.below XW.out (Nat.le_refl _)
      have zo := HX.out.size
      have zw := XW.out.size
      have BE : Hid (baseE x = x.2.2.2) := rfl
      rw [BE.out] at BS O2
      have Y2 := hide (HX.out.trans XW.out)
      have NE : Hid (∀ p, A' = some p → p.block ≠ wo.heap.size) := fun p hp => by
        rcases OwnI.form HO.out with ⟨h, _⟩ | ⟨g, h, _, h2, _⟩
        · rw [h] at hp; cases hp
        · rw [h] at hp; injection hp with hp; subst hp; simp; omega
      generalize bs x.1 = x0 at *
      generalize x.2.1 = x1 at *
      generalize x.2.2.1 = x2 at *
      generalize x.2.2.2 = Z at *
      have cB := B2.out.cell
      rw [hW1.out] at cB
      go_wp2
      rw [← hW1.out]
      clear hW1 q0 q1 q2 q3 cB
      go_loopw [6, 9] (fun o i0 wr => ∃ (j m' : Nat) (A9 : Option Addr) (c9 : Nat), j ≤ rN ∧ m' = m + j ∧ i0 = .int .i64 j ∧ o = .slice A9 m' c9 ∧ OwnI 3 wr w1.heap.size A9 m' c9 (basK d.1 rN k ++ List.replicate j Z) ∧ Blk wr wo.heap.size #[.string x0, .int .i64 x1, .int .i64 x2, .int .i64 Z] 109 ∧ (∀ p, A9 = some p → p.block ≠ wo.heap.size) ∧ Ext w1 wr) (fun _ i0 _ => rN - (intOf i0).toNat)
      case atStart => exact ⟨0, m, _, _, Nat.zero_le _, rfl, rfl, rfl, O2.out, BW.out, NE.out, Y2.out⟩
      case round =>
        obtain ⟨j, m', A9, c9, hj, hm', rfl, rfl, hown, hbw, hne, hx⟩ := hrel
        have HM : m' ≤ m + j := by omega
        have HM' := hide hm'
        have HO9 := hide hown
        have HX9 := hide hx
        have od1 := hown.capn; have od2 := hown.capm
        have BW9 := hide hbw
        have NE9 := hide hne
        clear hown hx O2 Y2 hm' hbw hne
        have cR := (B1.out.ext HX9.out).cell
        by_cases hlj : j < rN
        · have cW := BW9.out.cell
          have z9 := HX9.out.size
          have z8 := BW9.out.lt
          obtain ⟨L, hL⟩ : ∃ L, Hid (basK d.1 rN k ++ List.replicate j Z = L) := ⟨_, rfl⟩
          rw [hL.out] at HO9
          go_wp2_with (at_builtin; refine wpList_append_sl rfl (.tmp 30) (.tmp 33) rfl elem_int rfl rfl (lo := w1.heap.size) (Own.alloc HO9.out (.cells #[.int .i64 Z] 3)) (Sl.one wr (.int .i64 Z) 3) (one_int _) ?c1 ?c2 ?c3 ?_)
          case c1 => omega
          case c2 => omega
          case c3 => simp; omega
          intro A8 c8 w8 hap
          have Y8 := hide (hap.ext (HX9.out.trans (Ext.alloc wr _)) (Own.fromLo HO9.out))
          have BW8 := hide ((BW9.out.alloc (.cells #[.int .i64 Z] 3)).tchF (fp := (A9.map (·.block)).toList) (TchF.of_grown hap.grew (fun p hp => by rw [hp]; simp)) (fun hm => by obtain ⟨p, hp, he⟩ := mem_of_opt hm; exact NE9.out p hp he))
          have NE8 : Hid (∀ p, A8 = some p → p.block ≠ wo.heap.size) := fun p hp => by
            have h8 := hap.where_
            rw [hp] at h8
            rcases h8 with h8 | h8
            · cases hA : A9 with
              | none => rw [hA] at h8; cases h8
              | some q => rw [hA] at h8; simp at h8; rw [h8]; exact NE9.out q hA
            · simp at h8; omega
          have HAP := hide hap
          clear hap cW cR
          go_wp2
          go_roundw
          case rel => exact ⟨j + 1, m' + 1, A8, c8, by omega, by have := HM'.out; omega, by go_num, rfl, by rw [← repl_snoc, hL.out]; exact own_snoc HAP.out.own, BW8.out, NE8.out, Y8.out⟩
          case measure => simp [intOf]; omega
        · have ej : rN = j := by omega
          subst ej
          go_wp2
          clear cR
          go_roundw
          case rel => exact ⟨k + 1, m', A9, c9, by omega, by go_num, rfl, by rw [BS.out]; exact HO9.out, HX9.out⟩
          case measure => simp [intOf]; omega
    · have ek : nc = k := by omega
      subst ek
      have BL : Hid (basL d = basK d.1 rN nc) := by show _ = _; unfold basL; rw [RN.out, NC.out, Int.toNat_natCast]
      have m1 : 0 < m := by
        rw [← HO.out.len, basK_len _ _ _ (by rw [NC.out]; exact Nat.le_refl _)]
        exact Nat.mul_pos (by omega) (by omega)
      have BD := basK_bd HC.out rN nc
      rw [← BL.out] at BD HO
      have JS := hide (s.jdSorted_any A' m c' wo.heap.size _ wo HO.out.sl (Nat.le_refl _) (by omega))
      have hl : Hid ((basL d).length = m) := HO.out.len
      go_wp2_with fail
      refine JS.out.mono ?_
      rintro e w2 ⟨A2, c2, rfl, o2, x2⟩
      rw [sortU_eq] at o2
      have X2 := hide (HX.out.trans x2)
      have B2 := hide (B1.out.ext X2.out)
      have z2 := X2.out.size
      have YS : Hid (∀ z ∈ (sortD (basL d)).reverse, 0 ≤ z ∧ z ≤ 2000) := fun z hz => BD z ((sortD_perm _).mem_iff.1 (List.mem_reverse.1 hz))
      have PS : Hid (tailS (sortD (basL d)).reverse (n + 4).toNat m = planS d n) := by show _ = _; rw [← hl.out, tailS_all]; rfl
      have SLN : Hid ((sortD (basL d)).reverse.length = m) := by show _ = _; rw [List.length_reverse, sortD_len]; exact hl.out
      obtain ⟨ys, hys⟩ : ∃ ys, Hid ((sortD (basL d)).reverse = ys) := ⟨_, rfl⟩
      rw [hys.out] at o2 YS PS SLN
      have O2 := hide o2.sl
      have T0 := hide (tailS_zero ys (n + 4).toNat)
      clear o2 x2 JS BD hys
      go_wp2
      go_loop [10, 39] (fun s i0 => ∃ k : Nat, k ≤ m ∧ i0 = .int .i64 k ∧ s = .int .i64 (tailS ys (n + 4).toNat k)) (fun _ i0 => m - (intOf i0).toNat)
      case atStart => exact ⟨0, Nat.zero_le _, rfl, by rw [T0.out]⟩
      case round =>
        obtain ⟨k, hk, rfl, rfl⟩ := hrel
        have TB := tailS_bd YS.out (n + 4).toNat k
        rw [SLN.out] at TB
        by_cases hlk : k < m
        · have TS := hide (tailS_succ ys (n + 4).toNat k (by rw [SLN.out]; exact hlk))
          obtain ⟨b8, o8, rfl, hb8, hc8⟩ := SlI.cells O2.out (by omega)
          have cK := hc8 k hlk
          have yb : 0 ≤ ys.getD k 0 ∧ ys.getD k 0 ≤ 2000 := YS.out _ (by rw [List.getD_eq_getElem?_getD, List.getElem?_eq_getElem (by rw [SLN.out]; exact hlk)]; exact List.getElem_mem _)
          clear hc8
          by_cases hq : (m : Int) - k ≤ n + 4
          · have TQ : Hid (tailS ys (n + 4).toNat (k + 1) = tailS ys (n + 4).toNat k + ys.getD k 0) := by show _ = _; rw [TS.out, if_pos (by rw [SLN.out]; omega)]
            generalize ys.getD k 0 = Y at *
            generalize tailS ys (n + 4).toNat k = T at *
            go_wp2
            go_round
            case rel => exact ⟨k + 1, by omega, by go_num, by rw [TQ.out]⟩
            case measure => simp [intOf]; omega
          · have TQ : Hid (tailS ys (n + 4).toNat (k + 1) = tailS ys (n + 4).toNat k) := by show _ = _; rw [TS.out, if_neg (by rw [SLN.out]; omega)]; omega
            generalize ys.getD k 0 = Y at *
            generalize tailS ys (n + 4).toNat k = T at *
            go_wp2
            go_round
            case rel => exact ⟨k + 1, by omega, by go_num, by rw [TQ.out]⟩
            case measure => simp [intOf]; omega
        · have ek : m = k := by omega
          subst ek
          rw [PS.out] at TB ⊢
          generalize planS d n = Sk at *
          have h0 : 0 ≤ Sk * (100 + b) := Int.mul_nonneg (by omega) (by omega)
          have h1 : Sk * (100 + b) ≤ Sk * 120 := Int.mul_le_mul_of_nonneg_left (by omega) (by omega)
          have h2 : Sk * (100 + b) ≤ 100000000 := by omega
          clear h1
          have cB := B2.out.cell
          go_wp2
          go_ret2
          rw [HF.out]
          exact ⟨rfl, X1.out.trans X2.out⟩
end Go.Proofs.Ytmckompikbechaa
