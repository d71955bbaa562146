/- The greedy choice of the reference; MostSingles. -/
import Derived.Test.YtcnpbaldnhfebaaPI
namespace Go.Proofs.Ytcnpbaldnhfebaa
open Go.RowKit Go.Sort
set_option linter.unusedVariables false

set_option maxHeartbeats 1000000 in
theorem hasI_any (A : Option Addr) (n c B : Nat) (zs : List Int) (y : Int) (w : World) (h : SlI w B A n zs) (hn : n ≤ 1048576) :
    Calls Try.prog 70 #[.slice A n c, .int .i64 y] w fun e w' => e = .returned (.bool (zs.any (fun z => z == y))) ∧ w = w' := by
  have hl := hide h.len
  obtain ⟨R, hR⟩ : ∃ R, Hid (zs.any (fun z => z == y) = R) := ⟨_, rfl⟩
  rw [hR.out]
  go_enter Try.func70, Try.ntmps70
  go_wp2
  go_loop [6, 9] (fun _ i => ∃ k : Nat, k ≤ n ∧ i = .int .i64 k ∧ (zs.take k).any (fun z => z == y) = false) (fun _ i => n - (intOf i).toNat)
  case atStart => exact ⟨0, Nat.zero_le _, rfl, rfl⟩
  case round =>
    obtain ⟨k, hk, rfl, hall⟩ := hrel
    have H := hide hall; clear hall
    by_cases hlt : k < n
    · obtain ⟨b, off, rfl, hb, hc⟩ := h.cells (by omega)
      have hck := hc k hlt
      have hx : zs[k]? = some (zs.getD k 0) := by rw [List.getD_eq_getElem?_getD, List.getElem?_eq_getElem (by rw [hl.out]; exact hlt)]; rfl
      have HX := hide hx
      clear hc hx
      generalize zs.getD k 0 = x at *
      by_cases e1 : x = y
      · have b1 : (x == y) = true := by simp [e1]
        have HF : Hid (R = true) := by show _ = _; rw [← hR.out, List.any_eq_true]; exact ⟨x, List.mem_of_getElem? HX.out, b1⟩
        clear e1
        go_wp2
        go_ret
        exact ⟨ret_bool HF.out.symm, rfl⟩
      · have b1 : (x == y) = false := by simp [e1]
        have B1 := hide b1
        clear e1
        go_wp2
        go_round
        case rel =>
          obtain ⟨hk', e⟩ := List.getElem?_eq_some_iff.1 HX.out
          exact ⟨k + 1, by omega, by go_num, by rw [List.take_succ_eq_append_getElem hk', List.any_append, H.out, e]; simpa using B1.out⟩
        case measure => simp [intOf]; omega
    · have HF : Hid (R = false) := by show _ = _; rw [← hR.out]; have h8 := H.out; rwa [List.take_of_length_le (by rw [hl.out]; omega)] at h8
      go_wp2
      go_ret
      exact ⟨ret_bool HF.out.symm, rfl⟩
theorem s.l1Has_ext (A : Option Addr) (n c B : Nat) (zs : List Int) (y : Int) (w : World) (h : SlI w B A n zs) (hn : n ≤ 1048576) :
    Calls Try.prog 70 #[.slice A n c, .int .i64 y] w fun e w' => e = .returned (.bool (zs.any (fun z => z == y))) ∧ Ext w w' := (hasI_any A n c B zs y w h hn).mono fun _ _ ⟨he, hw⟩ => ⟨he, hw ▸ Ext.refl w⟩
def intL (l : List Nat) : List Int := l.map (fun (i : Nat) => (i : Int))
theorem intL_len (l : List Nat) : (intL l).length = l.length := by simp [intL]
theorem intL_has (l : List Nat) (k : Nat) : (intL l).any (fun z => z == (k : Int)) = decide (k ∈ l) := by
  rw [Bool.eq_iff_iff, List.any_eq_true, decide_eq_true_eq]
  unfold intL
  constructor
  · rintro ⟨z, hz, h⟩
    obtain ⟨i, hi, rfl⟩ := List.mem_map.1 hz
    have : (i : Int) = k := by simpa using h
    have : i = k := by omega
    exact this ▸ hi
  · intro h
    exact ⟨(k : Int), List.mem_map.2 ⟨k, h, rfl⟩, by simp⟩
theorem Own.keepBlk {e : TypeId} {w w' : World} {lo n c : Nat} {A : Option Addr} {vs : List Value} (h : Own e w lo A n c vs) (hk : ∀ p, A = some p → w'.heap[p.block]? = w.heap[p.block]?) : Own e w' lo A n c vs := by
  refine ⟨h.1, ?_⟩
  rcases h.2 with h | ⟨g, cap, cur, h, h1, h2, r⟩
  · exact .inl h
  · have ha := h
    simp only [Value.slice.injEq] at ha
    exact .inr ⟨g, cap, cur, h, h1, by have h9 := hk _ ha.1; rw [h9]; exact h2, r⟩
/-- The room that the families have left. -/
def rmL (d : CoD) (out : List Nat) : List Int := (List.range 5).map (roomF (famE d) (limE d) out)
theorem rmL_len (d : CoD) (out : List Nat) : (rmL d out).length = 5 := by simp [rmL]
theorem rmL_at (d : CoD) (out : List Nat) {f : Nat} (hf : f < 5) : (rmL d out).getD f 0 = roomF (famE d) (limE d) out f := by
  unfold rmL
  rw [List.getD_eq_getElem?_getD, List.getElem?_map, List.getElem?_range hf]
  rfl
theorem rmL_nil {d : CoD} (hd : CodeOk d) : d.2.1 = rmL d [] := by
  apply List.ext_getElem?
  intro i
  by_cases hi : i < 5
  · have h := (limE_eq hd hi).1
    have hl := hd.lim
    rw [List.getElem?_eq_getElem (by omega)]
    unfold rmL
    rw [List.getElem?_map, List.getElem?_range hi]
    simp only [Option.map_some, roomF, cntF]
    rw [h, List.getD_eq_getElem?_getD, List.getElem?_eq_getElem (by omega)]
    simp
  · rw [List.getElem?_eq_none (by have := hd.lim; omega), List.getElem?_eq_none (by rw [rmL_len]; omega)]
theorem rmL_snoc (d : CoD) (out : List Nat) {i f : Nat} (h : famE d i = f) (hf : f < 5) : rmL d (out ++ [i]) = (rmL d out).set f (roomF (famE d) (limE d) out f - 1) := by
  apply List.ext_getElem?
  intro j
  rw [List.getElem?_set, rmL_len]
  unfold rmL
  rw [List.getElem?_map, List.getElem?_map]
  by_cases hj : j < 5
  · rw [List.getElem?_range hj]
    simp only [Option.map_some, roomF]
    rw [cntF_snoc]
    by_cases hk : f = j
    · subst hk
      rw [if_pos rfl, if_pos hf, if_pos h]
      congr 1
      omega
    · rw [if_neg hk, if_neg (by omega)]
      simp
  · rw [List.getElem?_eq_none (l := List.range 5) (by simp; omega), if_neg (by omega)]
    rfl
def chF (d : CoD) (n : Nat) (q : Nat) (out : List Nat) : List Nat := choosF (famE d) (limE d) (basE d) d.1.length n q out
def pkF (d : CoD) (out : List Nat) (k : Nat) : Int := pickF (famE d) (limE d) (basE d) out k
def chosF (d : CoD) (n : Nat) : List Nat := chF d n n []
theorem pkF_lt (d : CoD) (out : List Nat) (k : Nat) : pkF d out k < k ∧ -1 ≤ pkF d out k := by
  rcases pickF_or (famE d) (limE d) (basE d) out k with h | ⟨i, hi, h, _⟩
  · unfold pkF; omega
  · unfold pkF; omega
theorem pkF_yes {d : CoD} {out : List Nat} {k : Nat} (h : 0 < roomF (famE d) (limE d) out (famE d k) ∧ k ∉ out ∧ (pkF d out k < 0 ∨ basE d (pkF d out k).toNat < basE d k)) : pkF d out (k + 1) = k := by
  unfold pkF at h ⊢
  rw [pickF, if_pos h]
theorem pkF_no {d : CoD} {out : List Nat} {k : Nat} (h : ¬ (0 < roomF (famE d) (limE d) out (famE d k) ∧ k ∉ out ∧ (pkF d out k < 0 ∨ basE d (pkF d out k).toNat < basE d k))) : pkF d out (k + 1) = pkF d out k := by
  unfold pkF at h ⊢
  rw [pickF, if_neg h]
theorem chF_stop {d : CoD} {n q : Nat} {out : List Nat} (h : ¬ out.length < n) : chF d n q out = out := by
  unfold chF
  cases q with
  | zero => rfl
  | succ q => rw [choosF, if_neg h]
theorem chF_none {d : CoD} {n q : Nat} {out : List Nat} (h : pkF d out d.1.length < 0) : chF d n q out = out := by
  unfold chF
  unfold pkF at h
  cases q with
  | zero => rfl
  | succ q =>
    rw [choosF]
    split
    all_goals first | rfl | rw [if_pos h]
theorem chF_next {d : CoD} {n q : Nat} {out : List Nat} (hl : out.length < n) (h : ¬ pkF d out d.1.length < 0) : chF d n (q + 1) out = chF d n q (out ++ [(pkF d out d.1.length).toNat]) := by
  unfold chF
  unfold pkF at h ⊢
  rw [choosF, if_pos hl, if_neg h]

set_option maxRecDepth 100000 in
set_option maxHeartbeats 4000000 in
theorem s.pnChoose_m (w : World) (v : Value) (d : CoD) (n : Nat) (h : kC.rd w v d) (hd : CodeOk d) (hn : n ≤ 14) :
    Calls Try.prog 45 #[v, .int .i64 n] w fun e w' => ∃ A' c', e = .returned (.slice A' (chosF d n).length c') ∧ OwnI 3 w' w.heap.size A' (chosF d n).length c' (intL (chosF d n)) ∧ Ext w w' := by
  obtain ⟨Ac, cc, Al, cl, rfl, hle, hll⟩ := kC.lr h
  obtain ⟨F, hF⟩ : ∃ F, Hid (chosF d n = F) := ⟨_, rfl⟩
  rw [hF.out]
  obtain ⟨nc, NC⟩ : ∃ z, Hid (d.1.length = z) := ⟨_, rfl⟩
  have l5 := hd.lim
  have h24 := hd.n2
  obtain ⟨r, RN⟩ : ∃ z, Hid (d.2.2.1 = z) := ⟨_, rfl⟩
  obtain ⟨b, BN⟩ : ∃ z, Hid (d.2.2.2.1 = z) := ⟨_, rfl⟩
  obtain ⟨p, PN⟩ : ∃ z, Hid (d.2.2.2.2.1 = z) := ⟨_, rfl⟩
  obtain ⟨f, FN⟩ : ∃ z, Hid (d.2.2.2.2.2 = z) := ⟨_, rfl⟩
  rw [NC.out, l5, RN.out, BN.out, PN.out, FN.out]
  have HL := hide hle
  have a1 := hle.1; have a2 := hle.2.1
  rw [NC.out] at a1 h24
  have b1 := hll.1; have b2 := hll.2.1
  have SL := hide hll.sl
  rw [l5] at SL b1
  have HC := hide hd
  have RN0 := hide (rmL_nil hd)
  clear h hd hle hll l5
  obtain ⟨W0, hW0⟩ : ∃ W0, Hid (W0 = w.alloc (.cells #[.slice Ac nc cc, .slice Al 5 cl, .int .i64 r, .int .i64 b, .int .i64 p, .int .i64 f] 31)) := ⟨_, rfl⟩
  have X0 : Hid (Ext w W0) := by rw [hW0.out]; exact Ext.alloc w _
  have B0 : Hid (Blk W0 w.heap.size #[.slice Ac nc cc, .slice Al 5 cl, .int .i64 r, .int .i64 b, .int .i64 p, .int .i64 f] 31) := by rw [hW0.out]; exact Blk.new rfl _ _
  have OW := hide (s.l1Own_any Al 5 cl w.heap.size d.2.1 W0 (SL.out.ext X0.out (Nat.le_refl _)) X0.out.size (by omega))
  have c0 := B0.out.cell
  rw [hW0.out] at c0
  have z0 := X0.out.size
  have z1 := B0.out.lt
  go_enter Try.func45, Try.ntmps45
  go_wp2_with fail
  rw [← hW0.out]
  clear hW0 c0
  refine OW.out.mono ?_
  rintro e w2 ⟨A6, c6, rfl, o6, x2⟩
  rw [RN0.out] at o6
  obtain ⟨g6, rfl, hg1, hg2, _⟩ := OwnI.pos o6 (by omega)
  have O6 : Hid (OwnI 3 w2 W0.heap.size (some ⟨g6, 0, none⟩) 5 c6 (rmL d [])) := o6
  have X2 := hide (X0.out.trans x2)
  have B2 := hide (B0.out.ext x2)
  have N5 : Hid (OwnI 3 w2 w2.heap.size none 0 0 (intL [])) := OwnI.nil
  have K0 : Hid (ChOk (famE d) (limE d) nc n []) := ⟨List.nodup_nil, by simp, fun f => by simp [cntF], by simp⟩
  have C0 : Hid (chF d n (n - 0) [] = F) := hF.out
  have od1 := o6.capn; have od2 := o6.capm
  have Y2 := hide (Ext.refl w2)
  have XW0 := hide x2
  clear o6 x2 OW B0 RN0 hF
  go_wp2
  go_loopw [5] (fun o wr => ∃ (out : List Nat) (m : Nat) (A5 : Option Addr) (c5 : Nat), out.length = m ∧ m ≤ n ∧ o = .slice A5 m c5 ∧ OwnI 3 wr w2.heap.size A5 m c5 (intL out) ∧ OwnI 3 wr W0.heap.size (some ⟨g6, 0, none⟩) 5 c6 (rmL d out) ∧ ChOk (famE d) (limE d) nc n out ∧ chF d n (n - m) out = F ∧ Blk wr w.heap.size #[.slice Ac nc cc, .slice Al 5 cl, .int .i64 r, .int .i64 b, .int .i64 p, .int .i64 f] 31 ∧ Ext W0 wr ∧ w2.heap.size ≤ wr.heap.size) (fun o _ => n - (match o with | .slice _ m _ => m | _ => 0))
  case atStart => exact ⟨[], 0, none, 0, rfl, Nat.zero_le _, rfl, N5.out, O6.out, K0.out, C0.out, B2.out, XW0.out, Nat.le_refl _⟩
  case round =>
    obtain ⟨out, m, A5, c5, hm, hmn, rfl, ho5, ho6, hch, hcf, hbb, hx, hsz⟩ := hrel
    clear N5 O6 K0 C0 B2 XW0
    have HM := hide hm
    have O5 := hide ho5
    have O6 := hide ho6
    have CH := hide hch
    have CF := hide hcf
    have BB := hide hbb
    have HX := hide hx
    have oc1 := ho5.capn; have oc2 := ho5.capm
    clear hm ho5 ho6 hch hcf hbb hx
    obtain ⟨wo, rfl⟩ : ∃ wo : World, wo = wr := ⟨_, rfl⟩
    by_cases hmn2 : m < n
    · have cB := BB.out.cell
      have P0 : Hid (pkF d out 0 = -1) := rfl
      have XR := hide (Ext.refl wo)
      go_wp2
      clear cB
      go_loopw [7, 20] (fun q i0 wr => ∃ (k : Nat), k ≤ nc ∧ i0 = .int .i64 k ∧ q = .int .i64 (pkF d out k) ∧ Ext wo wr) (fun _ i0 _ => nc - (intOf i0).toNat)
      case atStart => exact ⟨0, Nat.zero_le _, rfl, by rw [P0.out], XR.out⟩
      case round =>
        obtain ⟨k, hk, rfl, rfl, hx⟩ := hrel
        clear XR
        have HXi := hide hx
        clear hx
        by_cases hlt : k < nc
        · obtain ⟨x, hxk⟩ : ∃ x, Hid (d.1[k]? = some x) := get_ex d.1 k (by rw [NC.out]; exact hlt)
          have XO := hide (X0.out.trans (HX.out.trans HXi.out))
          obtain ⟨bb, off, rfl, hbb, q0, q1, q2, q3, _⟩ := (HL.out.ext XO.out (Nat.le_refl _)).element k x hxk.out
          have eb := elB_ok (HC.out.els k x hxk.out)
          obtain ⟨fa, hfa⟩ : ∃ fa : Nat, x.2.1 = (fa : Int) := ⟨x.2.1.toNat, by omega⟩
          have f5 : fa < 5 := by omega
          have FE : Hid (famE d k = fa) := by show _ = _; rw [famE_eq hxk.out, hfa, Int.toNat_natCast]
          have BE := hide (basE_eq hxk.out)
          obtain ⟨W1, hW1⟩ : ∃ W1, Hid (W1 = wr.alloc (.cells #[.string (bs x.1), .int .i64 x.2.1, .int .i64 x.2.2.1, .int .i64 x.2.2.2] 55)) := ⟨_, rfl⟩
          have XW : Hid (Ext wr W1) := by rw [hW1.out]; exact Ext.alloc _ _
          have BW : Hid (Blk W1 wr.heap.size #[.string (bs x.1), .int .i64 x.2.1, .int .i64 x.2.2.1, .int .i64 x.2.2.2] 55) := by rw [hW1.out]; exact Blk.new rfl _ _
          have O5b := hide (OwnI.sl (OwnI.below O5.out (HXi.out.trans XW.out) (Nat.le_refl _)))
          have O6b := hide (OwnI.below O6.out (HXi.out.trans XW.out) (Nat.le_refl _))
          have BBb := hide (BB.out.ext (HXi.out.trans XW.out))
          have R6 := OwnI.cell O6b.out fa f5
          rw [rmL_at d out f5] at R6
          have LH := hide (fun dd os => ext_regrown (s.l1Has_ext A5 m c5 W1.heap.size (intL out) k (grow (redrawn W1 dd) os) (SlI.ext O5b.out (ext_re W1 dd os) (Nat.le_refl _)) (by omega)))
          rw [intL_has] at LH
          have pb := pkF_lt d out k
          have PY := hide (pkF_yes (d := d) (out := out) (k := k))
          have PN2 := hide (pkF_no (d := d) (out := out) (k := k))
          rw [FE.out, BE.out] at PY PN2
          rw [hfa] at BW q1 hW1
          have YX := hide (fun dd os => HXi.out.trans (XW.out.trans (ext_re W1 dd os)))
          have c6_ := fun dd os => cell_regrown R6 dd os
          have cb_ := fun dd os => (BBb.out.ext (ext_re W1 dd os)).cell
          have cw_ := fun dd os => (BW.out.ext (ext_re W1 dd os)).cell
          generalize bs x.1 = x0 at *
          generalize x.2.2.1 = x2 at *
          generalize x.2.2.2 = Z at *
          generalize roomF (famE d) (limE d) out fa = R at *
          have YP : Hid (∀ P : Nat, pkF d out k = P → ∃ y : Int, basE d P = y ∧ ∀ dd os, (grow (redrawn W1 dd) os).cell? ⟨bb, off + P * 4 + 3, none⟩ = some (.int .i64 y)) := fun P hP => by
            obtain ⟨y, hyk⟩ : ∃ y, Hid (d.1[P]? = some y) := get_ex d.1 P (by rw [NC.out]; omega)
            obtain ⟨bb', off', he, hbb', _, _, _, t3, _⟩ := (HL.out.ext (XO.out.trans XW.out) (Nat.le_refl _)).element P y hyk.out
            simp only [Option.some.injEq, Addr.mk.injEq, and_true] at he
            obtain ⟨rfl, rfl⟩ := he
            exact ⟨_, basE_eq hyk.out, fun dd os => cell_regrown t3 dd os⟩
          generalize hP : pkF d out k = P at *
          have HPk := hide hP
          clear hP eb hfa R6
          have i0k : (k : Int) < nc := by omega
          have f5i : (fa : Int) < 5 := by omega
          go_wp2
          rw [← hW1.out]
          clear hW1 q0 q1 q2 q3
          by_cases h1 : 0 < R
          · by_cases h2 : k ∈ out
            · have NX := hide (PN2.out (fun h => h.2.1 h2))
              rw [show decide (k ∈ out) = true by simp [h2]] at LH
              clear h2 YP PY PN2
              refine wp_region_quiet_below (by kernel_rfl) (by kernel_rfl) ?_
              repeat (go_big_quiet_step ((go_at_call 70; exact LH.out _ _)))
              refine wpQuiet_nil ?_
              intro _ hw'
              obtain ⟨⟨dq, osq⟩, hw''⟩ := hw'
              subst hw''
              have Y9 := hide (YX.out dq osq)
              clear c6_ cb_ cw_
              generalize grow (redrawn W1 dq) osq = w9 at *
              go_wp2
              go_roundw
              case rel => exact ⟨k + 1, by omega, by go_num, by rw [NX.out], Y9.out⟩
              case measure => simp [intOf]; omega
            · rw [show decide (k ∈ out) = false by simp [h2]] at LH
              by_cases h3 : P < 0
              · have NX := hide (PY.out ⟨h1, h2, .inl h3⟩)
                clear h2 YP PY PN2
                refine wp_region_quiet_below (by kernel_rfl) (by kernel_rfl) ?_
                repeat (go_big_quiet_step ((go_at_call 70; exact LH.out _ _)))
                refine wpQuiet_nil ?_
                intro _ hw'
                obtain ⟨⟨dq, osq⟩, hw''⟩ := hw'
                subst hw''
                have Y9 := hide (YX.out dq osq)
                clear c6_ cb_ cw_
                generalize grow (redrawn W1 dq) osq = w9 at *
                go_wp2
                go_roundw
                case rel => exact ⟨k + 1, by omega, by go_num, by rw [NX.out], Y9.out⟩
                case measure => simp [intOf]; omega
              · obtain ⟨Pn, hPn⟩ : ∃ Pn : Nat, P = Pn := ⟨P.toNat, by omega⟩
                subst hPn
                obtain ⟨y, hy, cy_⟩ := YP.out Pn rfl
                rw [Int.toNat_natCast, hy] at PY PN2
                have ip : (Pn : Int) < nc := by omega
                by_cases h4 : y < Z
                · have NX := hide (PY.out ⟨h1, h2, .inr h4⟩)
                  clear h2 YP PY PN2 hy
                  refine wp_region_quiet_below (by kernel_rfl) (by kernel_rfl) ?_
                  repeat (go_big_quiet_step ((go_at_call 70; exact LH.out _ _)))
                  refine wpQuiet_nil ?_
                  intro _ hw'
                  obtain ⟨⟨dq, osq⟩, hw''⟩ := hw'
                  subst hw''
                  have Y9 := hide (YX.out dq osq)
                  clear c6_ cb_ cw_ cy_
                  generalize grow (redrawn W1 dq) osq = w9 at *
                  go_wp2
                  go_roundw
                  case rel => exact ⟨k + 1, by omega, by go_num, by rw [NX.out], Y9.out⟩
                  case measure => simp [intOf]; omega
                · have NX := hide (PN2.out (fun h => by rcases h.2.2 with h | h; exact h3 h; exact h4 h))
                  clear h2 YP PY PN2 hy
                  refine wp_region_quiet_below (by kernel_rfl) (by kernel_rfl) ?_
                  repeat (go_big_quiet_step ((go_at_call 70; exact LH.out _ _)))
                  refine wpQuiet_nil ?_
                  intro _ hw'
                  obtain ⟨⟨dq, osq⟩, hw''⟩ := hw'
                  subst hw''
                  have Y9 := hide (YX.out dq osq)
                  clear c6_ cb_ cw_ cy_
                  generalize grow (redrawn W1 dq) osq = w9 at *
                  go_wp2
                  go_roundw
                  case rel => exact ⟨k + 1, by omega, by go_num, by rw [NX.out], Y9.out⟩
                  case measure => simp [intOf]; omega
          · have NX := hide (PN2.out (fun h => h1 h.1))
            clear YP PY PN2
            refine wp_region_quiet_below (by kernel_rfl) (by kernel_rfl) ?_
            repeat (go_big_quiet_step ((go_at_call 70; exact LH.out _ _)))
            refine wpQuiet_nil ?_
            intro _ hw'
            obtain ⟨⟨dq, osq⟩, hw''⟩ := hw'
            subst hw''
            have Y9 := hide (YX.out dq osq)
            clear c6_ cb_ cw_
            generalize grow (redrawn W1 dq) osq = w9 at *
            go_wp2
            go_roundw
            case rel => exact ⟨k + 1, by omega, by go_num, by rw [NX.out], Y9.out⟩
            case measure => simp [intOf]; omega
        · have ek : nc = k := by omega
          subst ek
          have pb := pkF_lt d out nc
          have PK := hide (pickF_or (famE d) (limE d) (basE d) out nc)
          by_cases hneg : pkF d out nc < 0
          · have CN := hide (chF_none (n := n) (q := n - m) (by rw [NC.out]; exact hneg))
            generalize pkF d out nc = P at *
            go_wp2
            go_ret
            have e9 : out = F := by rw [← CN.out]; exact CF.out
            have hm := HM.out
            subst e9
            subst hm
            exact ⟨A5, c5, rfl, OwnI.lower (OwnI.below O5.out HXi.out (Nat.le_refl _)) (by omega), X0.out.trans (HX.out.trans HXi.out)⟩
          · have CN := hide (chF_next (d := d) (n := n) (q := n - (m + 1)) (out := out) (by rw [HM.out]; exact hmn2) (by rw [NC.out]; exact hneg))
            rw [show n - (m + 1) + 1 = n - m by omega, NC.out] at CN
            have hpk := PK.out
            rcases hpk with hpk | ⟨P, hP1, hP2, hP3, hP4⟩
            · exact absurd (show pkF d out nc < 0 by unfold pkF; omega) hneg
            have hPk : pkF d out nc = P := hP2
            rw [hPk] at CN
            rw [hPk]
            rw [Int.toNat_natCast] at CN
            have CHN := hide (CH.out.next hP1 hP3 hP4 (by rw [HM.out]; exact hmn2))
            obtain ⟨x, hxk⟩ : ∃ x, Hid (d.1[P]? = some x) := get_ex d.1 P (by rw [NC.out]; exact hP1)
            have eb := elB_ok (HC.out.els P x hxk.out)
            obtain ⟨fa, hfa⟩ : ∃ fa : Nat, x.2.1 = (fa : Int) := ⟨x.2.1.toNat, by omega⟩
            have f5 : fa < 5 := by omega
            have FE : Hid (famE d P = fa) := by show _ = _; rw [famE_eq hxk.out, hfa, Int.toNat_natCast]
            have RS := hide (rmL_snoc d out FE.out f5)
            have XO := hide (X0.out.trans (HX.out.trans HXi.out))
            obtain ⟨be, off, rfl, hbe, -, q1, -⟩ := (HL.out.ext XO.out (Nat.le_refl _)).element P x hxk.out
            rw [hfa] at q1
            have O5w := hide (OwnI.below O5.out HXi.out (Nat.le_refl _))
            have O6w := hide (OwnI.below O6.out HXi.out (Nat.le_refl _))
            have BBw := hide (BB.out.ext HXi.out)
            have zi := HXi.out.size
            have rb : -9 ≤ roomF (famE d) (limE d) out fa ∧ roomF (famE d) (limE d) out fa ≤ 9 := by
              have h1 := CHN.out.lim fa
              have h2 := (limE_eq HC.out f5)
              rw [FE.out] at hP3
              unfold roomF at hP3 ⊢
              omega
            have hmL : Hid ((out ++ [P]).length = m + 1) := by show _ = _; rw [List.length_append, HM.out]; rfl
            have HIL : Hid ((intL out).map (Value.int .i64) ++ [Value.int .i64 (P : Int)] = (intL (out ++ [P])).map (Value.int .i64)) := by show _ = _; simp [intL]
            obtain ⟨L, hL⟩ : ∃ L, Hid (intL out = L) := ⟨_, rfl⟩
            rw [hL.out] at O5w HIL
            have cB := BBw.out.cell
            generalize hR : roomF (famE d) (limE d) out fa = R at *
            have HR := hide hR
            clear hR eb hfa hP2 hP3 hP4 hPk PK hneg pb
            go_wp2_with (at_builtin; refine wpList_append_sl rfl (.tmp 56) (.tmp 58) rfl elem_int rfl rfl (lo := w2.heap.size) (Own.alloc O5w.out (.cells #[.int .i64 P] 3)) (Sl.one wr (.int .i64 P) 3) (one_int _) ?c1 ?c2 ?c3 ?_)
            case c1 => omega
            case c2 => omega
            case c3 => simp; omega
            intro A9 c9 w9 hap
            clear cB
            have hA5 : ∀ p, A5 = some p → w2.heap.size ≤ p.block := Own.fromLo O5w.out
            have XE := hide (hap.ext ((HX.out.trans HXi.out).trans (Ext.alloc wr _)) (fun p hp => by have := hA5 p hp; have := (HX.out.trans HXi.out).size; omega))
            have O6a : Hid (OwnI 3 w9 W0.heap.size (some ⟨g6, 0, none⟩) 5 c6 (rmL d out)) := Own.keepBlk (Own.alloc O6w.out (.cells #[.int .i64 P] 3)) (fun p hp => by
              injection hp with hp
              subst hp
              refine hap.grew.block g6 (by simp; omega) ?_
              intro hh
              cases hA : A5 with
              | none => rw [hA] at hh; cases hh
              | some q => rw [hA] at hh; simp at hh; have := hA5 q hA; omega)
            have BBa := hide ((BBw.out.alloc (.cells #[.int .i64 P] 3)).tchF (fp := (A5.map (·.block)).toList) (TchF.of_grown hap.grew (fun p hp => by rw [hp]; simp)) (fun hm => by obtain ⟨p, hp, he⟩ := mem_of_opt hm; have := hA5 p hp; have := BBw.out.lt; omega))
            have q1_ : w9.cell? ⟨be, off + P * 4 + 1, none⟩ = some (.int .i64 fa) := (XE.out.cell (by show be < _; omega)).trans (((HX.out.trans HXi.out).cell (by show be < _; omega)).symm.trans q1)
            have O9 : Hid (OwnI 3 w9 w2.heap.size A9 (m + 1) c9 (intL (out ++ [P]))) := own_conv hap.own (Nat.le_refl _) rfl HIL.out
            have hA9 : Hid (∀ p, A9 = some p → w2.heap.size ≤ p.block) := Own.fromLo O9.out
            have z9 := hap.grew.size
            have z9 : w2.heap.size ≤ w9.heap.size := by have h9 := z9; simp at h9; omega
            clear hap
            have cB := BBa.out.cell
            have c6_ := OwnI.cell O6a.out fa f5
            rw [rmL_at d out f5, HR.out] at c6_
            have f6_ := OwnI.free O6a.out fa
            have O6n : Hid (OwnI 3 (w9.setCell ⟨g6, fa, none⟩ (.int .i64 (R - 1))) W0.heap.size (some ⟨g6, 0, none⟩) 5 c6 (rmL d (out ++ [P]))) := by
              rw [RS.out]
              exact OwnI.set O6a.out fa _
            have O5n : Hid (OwnI 3 (w9.setCell ⟨g6, fa, none⟩ (.int .i64 (R - 1))) w2.heap.size A9 (m + 1) c9 (intL (out ++ [P]))) := Own.far O9.out (fun a ha => by have := hA9.out a ha; show a.block ≠ g6; omega) _
            have BBn : Hid (Blk (w9.setCell ⟨g6, fa, none⟩ (.int .i64 (R - 1))) w.heap.size #[.slice (some ⟨be, off, none⟩) nc cc, .slice Al 5 cl, .int .i64 r, .int .i64 b, .int .i64 p, .int .i64 f] 31) := BBa.out.far (by show w.heap.size ≠ g6; omega) _
            have XEn : Hid (Ext W0 (w9.setCell ⟨g6, fa, none⟩ (.int .i64 (R - 1)))) := Below.setCell XE.out (by show _ ≤ g6; omega) _
            have hzn : w2.heap.size ≤ (w9.setCell ⟨g6, fa, none⟩ (.int .i64 (R - 1))).heap.size := by simp [World.setCell]; omega
            go_wp2
            clear cB c6_ f6_ q1_ q1
            generalize w9.setCell ⟨g6, fa, none⟩ (.int .i64 (R - 1)) = w10 at *
            go_roundw
            case rel => exact ⟨out ++ [P], m + 1, A9, c9, hmL.out, by omega, rfl, O5n.out, O6n.out, CHN.out, by rw [← CN.out]; exact CF.out, BBn.out, XEn.out, hzn⟩
            case measure => simp; omega
    · have CN := hide (chF_stop (d := d) (q := n - m) (by rw [HM.out]; exact hmn2))
      have e9 : out = F := by rw [← CN.out]; exact CF.out
      have hm := HM.out
      subst e9
      subst hm
      go_wp2
      go_ret
      exact ⟨A5, c5, rfl, OwnI.lower O5.out (by omega), X0.out.trans HX.out⟩

theorem chos_len {d : CoD} (hd : CodeOk d) (n : Nat) : (chosF d n).length = min n (totF (fitE d)) := by
  unfold chosF chF fitE
  exact choosF_len (fun i _ => famE_lt hd i) n [] ⟨List.nodup_nil, by simp, fun f => by simp [cntF], by simp⟩ (by simp)
end Go.Proofs.Ytcnpbaldnhfebaa
