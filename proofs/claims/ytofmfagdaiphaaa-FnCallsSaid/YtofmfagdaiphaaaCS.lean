/- A sheet in new memory. -/
import Derived.Test.YtofmfagdaiphaaaCH
import Derived.Deep.DeepCutAuto
namespace Go.Proofs.Ytofmfagdaiphaaa
open Go.RowKit Go.Sort
set_option linter.unusedVariables false

set_option maxRecDepth 100000 in
set_option maxHeartbeats 40000000 in
theorem i.copySheet_m (w : World) (v : Value) (d : ShD) (h : kSh.rd w v d) (hok : kSh.ok d) :
    Calls Try.prog 39 #[v] w fun e w' => ∃ v', e = .returned v' ∧ kSh.fr w' w.heap.size w'.heap.size v' d ∧ Ext w w' := by
  obtain ⟨A, c, A', c', D, e, rfl, h1, h2, h3⟩ := kSh.lr h
  have hok' : kdSh.wt d ≤ 1048576 := hok
  rw [kdSh.wt_eq] at hok'
  have hw1 : wtL kdItem d.1 ≤ 1048576 := by have : kdItS.wt d.1 = wtL kdItem d.1 := rfl; omega
  have hw2 : wtL kdLL d.2.1 ≤ 1048576 := by have : kdLLL.wt d.2.1 = wtL kdLL d.2.1 := rfl; omega
  have hw3 : wtL kdRv d.2.2 ≤ 1048576 := by have : kdRvS.wt d.2.2 = wtL kdRv d.2.2 := rfl; omega
  have k3 := Nat.le_trans (wtL_len kdRv d.2.2) hw3
  have k2 := Nat.le_trans (wtL_len kdLL d.2.1) hw2
  have a1 := h1.1; have a2 := h1.2.1; have a3 := h2.1; have a4 := h2.2.1; have a5 := h3.1; have a6 := h3.2.1
  have CI := hide (fun (wq : World) (xq : Ext w wq) => i.copyItems_any wq A c w.heap.size d.1 (h1.ext xq (Nat.le_refl _)) xq.size hw1)
  have H2 := hide h2
  have HW2 := hide hw2
  have RS := hide (fun (wq : World) (xq : Ext w wq) => (h3.ext xq (Nat.le_refl _)).rvSrc)
  have RL := hide (rvCs_len d.2.2)
  clear h h1 h2 h3 hok' hok hw1 hw2 hw3
  obtain ⟨n, hn⟩ : ∃ n, Hid (d.1.length = n) := ⟨_, rfl⟩
  obtain ⟨n', hn'⟩ : ∃ n', Hid (d.2.1.length = n') := ⟨_, rfl⟩
  obtain ⟨m', hm'⟩ : ∃ n', Hid (d.2.2.length = n') := ⟨_, rfl⟩
  rw [hn.out] at a1 CI
  rw [hn'.out] at a3 k2
  rw [hm'.out] at a5 k3 RS RL
  rw [hn.out, hn'.out, hm'.out]
  obtain ⟨W0, hW0⟩ : ∃ W0, Hid (W0 = (w.alloc (.cells #[.slice A n c, .slice A' n' c', .slice D m' e] 28)).alloc (.cells #[.slice none 0 0, .slice none 0 0, .slice none 0 0] 28)) := ⟨_, rfl⟩
  have X : Hid (Ext w W0) := by rw [hW0.out]; exact (Ext.alloc w _).trans (Ext.alloc _ _)
  have B0 : Hid (Blk W0 w.heap.size #[.slice A n c, .slice A' n' c', .slice D m' e] 28) := by rw [hW0.out]; exact (Blk.new rfl _ _).alloc _
  have B1 : Hid (Blk W0 (w.heap.size + 1) #[.slice none 0 0, .slice none 0 0, .slice none 0 0] 28) := by rw [hW0.out]; exact Blk.new (by simp) _ _
  have SF : Hid (∀ w', Ext W0 w' → ∀ i, w'.cell? ⟨w.heap.size, i, none⟩ = #[Value.slice A n c, .slice A' n' c', .slice D m' e][i]?) := fun w' xq => (B0.out.ext xq).cell
  have b1 : m' * 24 ≤ 140737488355328 := by omega
  have b2 : m' ≤ 4611686018427387904 := by omega
  have SRCF : Hid (∀ (wq : World), Ext W0 wq → m' = 0 ∨ ∃ b off, D = some ⟨b, off, none⟩ ∧ ∀ j u, (d.2.2.map rvCs).flatten[j]? = some u → wq.cell? ⟨b, off + j, none⟩ = some u) := fun wq xq => by
    rcases RS.out wq (X.out.trans xq) with h | ⟨b, off, h1, _, h2⟩
    · exact .inl h
    · exact .inr ⟨b, off, h1, h2⟩
  have c0_ := SF.out W0 (Ext.refl _)
  go_enter Try.func39, Try.ntmps39
  go_upto_region 1 with fail
  rw [← hW0.out]
  clear hW0
  go_cut [3] (fun s3 wx => ∃ (gb g9 : Nat) (A3 : Option Addr) (c3 : Nat) (fp3 : List Nat) (A4 : Option Addr) (c4 : Nat) (fp4 : List Nat), s3 = .pointer (some ⟨gb, 0, none⟩) ∧ Blk wx gb #[.slice A3 n c3, .slice (some ⟨g9, 0, none⟩) 0 0, .slice A4 m' c4] 28 ∧ LO kdItem 50 wx A3 c3 d.1 fp3 ∧ LO kdLL 43 wx (some ⟨g9, 0, none⟩) 0 [] [g9] ∧ LO kdRv 30 wx A4 c4 d.2.2 fp4 ∧ (∀ i ∈ fp3, W0.heap.size ≤ i ∧ i ≠ gb ∧ i ≠ g9 ∧ i ∉ fp4) ∧ (∀ i ∈ fp4, W0.heap.size ≤ i ∧ i ≠ gb ∧ i ≠ g9) ∧ gb ≠ g9 ∧ W0.heap.size ≤ gb ∧ W0.heap.size ≤ g9 ∧ Ext W0 wx)
  case first =>
    go_region_held3 (fun w' => ∀ i, w'.cell? ⟨w.heap.size, i, none⟩ = #[Value.slice A n c, .slice A' n' c', .slice D m' e][i]?)
      (exact SF.out _ (by repeat (first | with_reducible refine Ext.setC ?_ (by have := Y3.out.size; have := Y4.out.size; simp <;> omega) _ | with_reducible exact Y4.out | with_reducible exact Y3.out | with_reducible exact Ext.drew _ | with_reducible exact Ext.refl _ | with_reducible refine Ext.trans ?_ (Ext.alloc _ _) | with_reducible refine Ext.trans ?_ (Ext.drew _))))
      (first
      | (refine step_append_fresh (by rfl) (.tmp 10) (.tmp 12) (by rfl) elemN_rv (by decide) (by rfl) (by rfl) RL.out (SRCF.out _ (by (repeat (first | with_reducible exact Y3.out | with_reducible exact Ext.drew _ | with_reducible exact Ext.refl _ | with_reducible refine Ext.trans ?_ (Ext.alloc _ _) | with_reducible refine Ext.trans ?_ (Ext.drew _))))) (rvCs_one _) b1 b2 ?_; intro A4 c4 w4 x4 hr4; have h9 := (by (first | with_reducible exact Ext.bcellD x4 | exact Ext.bcell x4)); have hc4 := h9.1; have hf4 := h9.2; clear h9; have hz4 := x4.size; (try simp at hz4); (try (have : w3.heap.size < w4.heap.size := by omega)); (try (have : w3.heap.size ≠ w4.heap.size := by omega)); (try (have : w3.heap.size < w4.heap.size + 1 := by omega)); (try (have : w3.heap.size ≠ w4.heap.size + 1 := by omega)); (try (have : w3.heap.size < w4.heap.size + 1 + 1 := by omega)); (try (have : w3.heap.size ≠ w4.heap.size + 1 + 1 := by omega)); (try (have : w3.heap.size + 1 < w4.heap.size := by omega)); (try (have : w3.heap.size + 1 ≠ w4.heap.size := by omega)); (try (have : w3.heap.size + 1 < w4.heap.size + 1 := by omega)); (try (have : w3.heap.size + 1 ≠ w4.heap.size + 1 := by omega)); (try (have : w3.heap.size + 1 < w4.heap.size + 1 + 1 := by omega)); (try (have : w3.heap.size + 1 ≠ w4.heap.size + 1 + 1 := by omega)); (try (have : w3.heap.size + 1 + 1 < w4.heap.size := by omega)); (try (have : w3.heap.size + 1 + 1 ≠ w4.heap.size := by omega)); (try (have : w3.heap.size + 1 + 1 < w4.heap.size + 1 := by omega)); (try (have : w3.heap.size + 1 + 1 ≠ w4.heap.size + 1 := by omega)); (try (have : w3.heap.size + 1 + 1 < w4.heap.size + 1 + 1 := by omega)); (try (have : w3.heap.size + 1 + 1 ≠ w4.heap.size + 1 + 1 := by omega)); (try (have : W0.heap.size < w4.heap.size := by omega)); (try (have : W0.heap.size ≠ w4.heap.size := by omega)); (try (have : W0.heap.size < w4.heap.size + 1 := by omega)); (try (have : W0.heap.size ≠ w4.heap.size + 1 := by omega)); (try (have : W0.heap.size < w4.heap.size + 1 + 1 := by omega)); (try (have : W0.heap.size ≠ w4.heap.size + 1 + 1 := by omega)); (try (have : W0.heap.size + 1 < w4.heap.size := by omega)); (try (have : W0.heap.size + 1 ≠ w4.heap.size := by omega)); (try (have : W0.heap.size + 1 < w4.heap.size + 1 := by omega)); (try (have : W0.heap.size + 1 ≠ w4.heap.size + 1 := by omega)); (try (have : W0.heap.size + 1 < w4.heap.size + 1 + 1 := by omega)); (try (have : W0.heap.size + 1 ≠ w4.heap.size + 1 + 1 := by omega)); (try (have : W0.heap.size + 1 + 1 < w4.heap.size := by omega)); (try (have : W0.heap.size + 1 + 1 ≠ w4.heap.size := by omega)); (try (have : W0.heap.size + 1 + 1 < w4.heap.size + 1 := by omega)); (try (have : W0.heap.size + 1 + 1 ≠ w4.heap.size + 1 := by omega)); (try (have : W0.heap.size + 1 + 1 < w4.heap.size + 1 + 1 := by omega)); (try (have : W0.heap.size + 1 + 1 ≠ w4.heap.size + 1 + 1 := by omega)); obtain ⟨fp4, lo4, ff4⟩ := rv_done x4 (by (repeat (first | with_reducible exact Blk.new (by simp) _ _ | with_reducible refine Blk.alloc ?_ _ | with_reducible refine Blk.ext ?_ Z3.out | with_reducible refine Blk.ext ?_ (Ext.drew _)))) hm'.out hr4; (try simp at ff4); have LO4 := hide lo4; have F4 := hide ff4; have Z4 := hide x4; have Y4 : Hid (Ext W0 w4) := Ext.trans (by (repeat (first | with_reducible exact Y3.out | with_reducible exact Ext.drew _ | with_reducible exact Ext.refl _ | with_reducible refine Ext.trans ?_ (Ext.alloc _ _) | with_reducible refine Ext.trans ?_ (Ext.drew _)))) x4; clear hr4 x4 lo4 ff4)
      | (go_at_call 54; refine (CI.out _ (X.out.trans (by (repeat (first | with_reducible exact Y4.out | with_reducible exact Ext.drew _ | with_reducible exact Ext.refl _ | with_reducible refine Ext.trans ?_ (Ext.alloc _ _) | with_reducible refine Ext.trans ?_ (Ext.drew _)))))).mono ?_; rintro e1 w3 ⟨A3, c3, fp3, rfl, hl3, hf3, x3⟩; have h9 := (by (first | with_reducible exact Ext.bcellD x3 | exact Ext.bcell x3)); have hc3 := h9.1; have hf3' := h9.2; clear h9; have hz3 := x3.size; (try simp at hz3); (try (have : w4.heap.size < w3.heap.size := by omega)); (try (have : w4.heap.size ≠ w3.heap.size := by omega)); (try (have : w4.heap.size < w3.heap.size + 1 := by omega)); (try (have : w4.heap.size ≠ w3.heap.size + 1 := by omega)); (try (have : w4.heap.size < w3.heap.size + 1 + 1 := by omega)); (try (have : w4.heap.size ≠ w3.heap.size + 1 + 1 := by omega)); (try (have : w4.heap.size + 1 < w3.heap.size := by omega)); (try (have : w4.heap.size + 1 ≠ w3.heap.size := by omega)); (try (have : w4.heap.size + 1 < w3.heap.size + 1 := by omega)); (try (have : w4.heap.size + 1 ≠ w3.heap.size + 1 := by omega)); (try (have : w4.heap.size + 1 < w3.heap.size + 1 + 1 := by omega)); (try (have : w4.heap.size + 1 ≠ w3.heap.size + 1 + 1 := by omega)); (try (have : w4.heap.size + 1 + 1 < w3.heap.size := by omega)); (try (have : w4.heap.size + 1 + 1 ≠ w3.heap.size := by omega)); (try (have : w4.heap.size + 1 + 1 < w3.heap.size + 1 := by omega)); (try (have : w4.heap.size + 1 + 1 ≠ w3.heap.size + 1 := by omega)); (try (have : w4.heap.size + 1 + 1 < w3.heap.size + 1 + 1 := by omega)); (try (have : w4.heap.size + 1 + 1 ≠ w3.heap.size + 1 + 1 := by omega)); (try (have : W0.heap.size < w3.heap.size := by omega)); (try (have : W0.heap.size ≠ w3.heap.size := by omega)); (try (have : W0.heap.size < w3.heap.size + 1 := by omega)); (try (have : W0.heap.size ≠ w3.heap.size + 1 := by omega)); (try (have : W0.heap.size < w3.heap.size + 1 + 1 := by omega)); (try (have : W0.heap.size ≠ w3.heap.size + 1 + 1 := by omega)); (try (have : W0.heap.size + 1 < w3.heap.size := by omega)); (try (have : W0.heap.size + 1 ≠ w3.heap.size := by omega)); (try (have : W0.heap.size + 1 < w3.heap.size + 1 := by omega)); (try (have : W0.heap.size + 1 ≠ w3.heap.size + 1 := by omega)); (try (have : W0.heap.size + 1 < w3.heap.size + 1 + 1 := by omega)); (try (have : W0.heap.size + 1 ≠ w3.heap.size + 1 + 1 := by omega)); (try (have : W0.heap.size + 1 + 1 < w3.heap.size := by omega)); (try (have : W0.heap.size + 1 + 1 ≠ w3.heap.size := by omega)); (try (have : W0.heap.size + 1 + 1 < w3.heap.size + 1 := by omega)); (try (have : W0.heap.size + 1 + 1 ≠ w3.heap.size + 1 := by omega)); (try (have : W0.heap.size + 1 + 1 < w3.heap.size + 1 + 1 := by omega)); (try (have : W0.heap.size + 1 + 1 ≠ w3.heap.size + 1 + 1 := by omega)); have Z3 := hide x3; have Y3 : Hid (Ext W0 w3) := Ext.trans (by (repeat (first | with_reducible exact Y4.out | with_reducible exact Ext.drew _ | with_reducible exact Ext.refl _ | with_reducible refine Ext.trans ?_ (Ext.alloc _ _) | with_reducible refine Ext.trans ?_ (Ext.drew _)))) x3; (try simp at hf3); have LO3 := hide hl3; have F3 := hide hf3; clear hl3 hf3 x3))
    all_goals
      have LT3 := LO3.out.lt; have FF3 := F3.out; have LT4 := LO4.out.lt; have FF4 := F4.out
      have y3 := Y3.out.size; have y4 := Y4.out.size
      go_wp2_with fail
      go_meet
      refine ⟨_, _, A3, c3, fp3, A4, c4, fp4, rfl, (by (repeat (first | with_reducible refine Blk.set3 (a := .slice none 0 0) (b := .slice none 0 0) (c := .slice none 0 0) ?_ _ _ _ | with_reducible exact Blk.new (by simp) _ _ | with_reducible refine Blk.alloc ?_ _ | with_reducible refine Blk.ext ?_ Z4.out | with_reducible refine Blk.ext ?_ Z3.out | with_reducible refine Blk.ext ?_ (Ext.drew _)))), (by (repeat (first | with_reducible exact LO3.out | with_reducible refine LO.ext ?_ (Ext.alloc _ _) | with_reducible refine LO.ext ?_ Z4.out | with_reducible refine LO.ext ?_ Z3.out | with_reducible refine LO.ext ?_ (Ext.drew _) | with_reducible refine LO.keep ?_ (fun i hi => heap_set3 (by have a1 := F3.out i hi; have a2 := LO3.out.lt i hi; omega) _ _ _)))), (by (repeat (first | with_reducible exact LO.emptyVAt (by simp) | with_reducible refine LO.ext ?_ (Ext.alloc _ _) | with_reducible refine LO.ext ?_ Z4.out | with_reducible refine LO.ext ?_ Z3.out | with_reducible refine LO.ext ?_ (Ext.drew _) | with_reducible refine LO.keep ?_ (fun i hi => heap_set3 (by simp at hi; omega) _ _ _)))), (by (repeat (first | with_reducible exact LO4.out | with_reducible refine LO.ext ?_ (Ext.alloc _ _) | with_reducible refine LO.ext ?_ Z4.out | with_reducible refine LO.ext ?_ Z3.out | with_reducible refine LO.ext ?_ (Ext.drew _) | with_reducible refine LO.keep ?_ (fun i hi => heap_set3 (by have a1 := F4.out i hi; have a2 := LO4.out.lt i hi; omega) _ _ _)))), fun i hi => ⟨?_, ?_, ?_, fun hm => ?_⟩, fun i hi => ⟨?_, ?_, ?_⟩, ?_, ?_, ?_, (by (repeat (first | with_reducible refine Ext.set3 ?_ (by omega) _ _ _ | with_reducible exact Y4.out | with_reducible exact Y3.out | with_reducible exact Ext.drew _ | with_reducible exact Ext.refl _ | with_reducible refine Ext.trans ?_ (Ext.alloc _ _) | with_reducible refine Ext.trans ?_ (Ext.drew _))))⟩
      all_goals first | omega | (have a1 := FF3 i hi; have a2 := LT3 i hi; omega) | (have a1 := FF4 i hi; have a2 := LT4 i hi; omega) | (have a1 := FF3 i hi; have a2 := LT3 i hi; have a3 := FF4 i hm; have a4 := LT4 i hm; omega)
  case rest =>
    obtain ⟨gb, g9, A3, c3, fp3, A4, c4, fp4, rfl, hbl, hl3, hl9, hl4, hf3, hf4, hne, hzb, hz9, hx⟩ := hcut
    have SB := hide hbl
    have LO3 := hide hl3
    have LO4 := hide hl4
    have F3 := hide hf3
    have F4 := hide hf4
    have XC := hide hx
    have zc := hx.size
    have gbl := hbl.lt
    have g9l := hl9.lt g9 (by simp)
    have LT3 := hide hl3.lt
    have LT4 := hide hl4.lt
    have BR := hide (B1.out.ext hx)
    have T0 := hide (TchF.refl [g9, gb] wc)
    have V0 : Hid (LO kdLL 43 wc (some ⟨g9, 0, none⟩) 0 (d.2.1.take 0) [g9]) := hl9
    have cF := SF.out wc hx
    have zw := X.out.size
    have zb0 := B0.out.lt
    have zb1 := B1.out.lt
    clear hbl hl3 hl9 hl4 hf3 hf4 hx SF SRCF RS RL CI
    go_wp2
    clear cF
    go_loopw [18] (fun i0 wr => ∃ (k : Nat) (A5 : Option Addr) (c5 : Nat) (fpv : List Nat), k ≤ n' ∧ i0 = .int .i64 k ∧ Blk wr gb #[.slice A3 n c3, .slice A5 k c5, .slice A4 m' c4] 28 ∧ LO kdLL 43 wr A5 c5 (d.2.1.take k) fpv ∧ (∀ i ∈ fpv, i = g9 ∨ wc.heap.size ≤ i) ∧ TchF [g9, gb] wc wr) (fun i0 _ => n' - (intOf i0).toNat)
    case atStart => exact ⟨0, _, _, _, Nat.zero_le _, rfl, SB.out, V0.out, fun i hi => by simp at hi; exact .inl hi, T0.out⟩
    case round =>
      obtain ⟨k, A5, c5, fpv, hk, rfl, hbl, hv, hfv, ht⟩ := hrel
      clear V0 T0 SB
      have HV := hide hv
      have FV := hide hfv
      have HT := hide ht
      have SBk := hide hbl
      have oc := hv.cap
      have HLn : Hid ((d.2.1.take k).length = k) := by show _ = _; rw [List.length_take, hn'.out]; omega
      rw [HLn.out] at oc
      have oc1 := oc.1; have oc2 := oc.2
      clear hv hfv ht hbl oc
      have zo := HT.out.size
      by_cases hlt : k < n'
      · obtain ⟨x, hxk⟩ : ∃ x, Hid (d.2.1[k]? = some x) := get_exN d.2.1 k (by rw [hn'.out]; exact hlt)
        have HK : Hid (d.2.1.take (k + 1) = d.2.1.take k ++ [x]) := by
          obtain ⟨hk', e⟩ := List.getElem?_eq_some_iff.1 hxk.out
          show _ = _
          rw [List.take_succ_eq_append_getElem hk', e]
        have XT : Hid (Ext W0 wr) := XC.out.tchF HT.out (fun i hi => by simp at hi; omega)
        have hxw := kdLLL_row HW2.out hxk.out
        obtain ⟨b, off, Ak, ck, rfl, hb, hck, hrk⟩ := (H2.out.ext (X.out.trans XT.out) (Nat.le_refl _)).voteS k x hxk.out
        have CQ := hide (i.copyLists_c Ak ck w.heap.size x wr.drew (hrk.ext (Ext.drew _) (by have := XT.out.size; omega)) (by show w.heap.size ≤ wr.heap.size; have := XT.out.size; omega) hxw)
        have hz := hrk.1; have hz2 := hrk.2.1
        obtain ⟨m, hm⟩ : ∃ m, Hid (x.length = m) := ⟨_, rfl⟩
        rw [hm.out] at hck CQ hz
        clear hrk
        have b1 : (k + 1) * 24 ≤ 140737488355328 := by omega
        have b2 : k + 1 ≤ 4611686018427387904 := by omega
        have LVt := hide HV.out.lt
        have cS := SBk.out.cell
        have i3 : (k : Int) < n' := by omega
        go_wp2
        go_region_law (first
          | (refine step_append_LOI (K := kdLL) (by rfl) (.tmp 23) (.tmp 26) (by rfl) elemN_votes (by decide) HLn.out.symm (by rfl) (by rfl) LO1.out KO1.out D1.out D2.out b1 b2 ?_; intro A10 c10 w10 fp10 hap; have HA := hide hap; have SB10 := hide (SBx.out.tchF hap.tch (fun hm => by rcases FV.out gb hm with h | h <;> omega)); have cS10 := SB10.out.cell; have fS10 := SB10.out.free; clear hap)
          | (go_simp; go_at_call 76; refine CQ.out.mono ?_; rintro e1 w3 ⟨A1, c1, f1, rfl, l1, g1, x1⟩; have SB3 := (SBk.out.ext (Ext.drew _)).ext x1; have SBx := hide (SB3.alloc (.cells #[.slice A1 m c1] 43)); have cS3 := SB3.cell; have cSx := SBx.out.cell; have X3 := hide x1; have HLm : Hid (m = x.length) := hm.out.symm; have LO1 := hide (((HV.out.ext (Ext.drew _)).ext x1).ext (Ext.alloc w3 (.cells #[.slice A1 m c1] 43))); have KO1 := hide (kdLL.own_ext (own_rowLL l1 HLm.out) (Ext.alloc w3 (.cells #[.slice A1 m c1] 43))); have G1 : Hid (∀ i ∈ f1, wr.heap.size ≤ i) := g1; have D1 : Hid (∀ i ∈ f1, i ∉ fpv) := (fun i hi hq => by have := G1.out i hi; have := LVt.out i hq; omega); have D2 : Hid (∀ j u, [Value.slice A1 m c1][j]? = some u → (w3.alloc (.cells #[.slice A1 m c1] 43)).cell? ⟨w3.heap.size, 0 + j, none⟩ = some u) := fun q u hu => (by cases q with | zero => simp at hu; subst hu; exact (cellN (w := w3) rfl #[.slice A1 m c1] 43 0).trans rfl | succ q => simp at hu); clear x1 l1 g1 SB3))
        all_goals
          have gbn : gb ∉ fpv := fun hm => by rcases FV.out gb hm with h | h <;> omega
          have XL := hide (((Ext.drew wr).trans X3.out).trans (Ext.alloc w3 (.cells #[.slice A1 m c1] 43)))
          have xz := X3.out.size
          have xz2 : wr.heap.size ≤ w3.heap.size := xz
          have F10 : Hid (∀ i ∈ fp10, i = g9 ∨ wc.heap.size ≤ i) := fun i hi => by
            rcases HA.out.sub i hi with h | h | h
            · exact FV.out i h
            · have := G1.out i h; exact .inr (by omega)
            · rw [h]; refine .inr ?_; simp; omega
          have NB : Hid (∀ i ∈ fp10, i ≠ gb) := fun i hi => by rcases F10.out i hi with h | h <;> omega
          have ON : Hid (LO kdLL 43 (w10.setCell ⟨gb, 1, none⟩ (.slice A10 (k + 1) c10)) A10 c10 (d.2.1.take (k + 1)) fp10) := by rw [HK.out]; exact HA.out.own.keep (fun i hi => Below.heap_setCell _ _ _ _ (NB.out i hi))
          have SBn : Hid (Blk (w10.setCell ⟨gb, 1, none⟩ (.slice A10 (k + 1) c10)) gb #[.slice A3 n c3, .slice A10 (k + 1) c10, .slice A4 m' c4] 28) := SB10.out.set 1 _
          have TN : Hid (TchF [g9, gb] wc (w10.setCell ⟨gb, 1, none⟩ (.slice A10 (k + 1) c10))) := ((HT.out.trans (TchF.of_ext XL.out)).trans_new HA.out.tch (fun i hi => by rcases FV.out i hi with h | h; exact .inl (by simp [h]); exact .inr h)).trans (TchF.set1 _ _ _ (by simp))
          clear cS cS3 cSx cS10 fS10
          generalize w10.setCell ⟨gb, 1, none⟩ (.slice A10 (k + 1) c10) = w11 at *
          go_wp2
          go_roundw
          case rel => exact ⟨k + 1, A10, c10, fp10, by omega, by go_num, SBn.out, ON.out, F10.out, TN.out⟩
          case measure => simp [intOf]; omega
      · have ek : n' = k := by omega
        subst ek
        have HV6 : Hid (LO kdLL 43 wr A5 c5 d.2.1 fpv) := by
          have h8 := HV.out
          rwa [List.take_of_length_le (by rw [hn'.out]; exact Nat.le_refl _)] at h8
        have BRr := hide (BR.out.tchF HT.out (by simp; omega))
        have XT : Hid (Ext W0 wr) := XC.out.tchF HT.out (fun i hi => by simp at hi; omega)
        have cS := SBk.out.cell
        have cR := BRr.out.cell; have fR := BRr.out.free
        have gr : gb ≠ w.heap.size + 1 := by omega
        go_wp2_with fail
        have cE := (BRr.out.set3 (.slice A3 n c3) (.slice A5 n' c5) (.slice A4 m' c4)).cell
        refine bodyPost_ret (v := .agg #[.slice A3 n c3, .slice A5 n' c5, .slice A4 m' c4]) (by simp [results, Try.results39, go_sem, cE]) rfl ?_
        have K3 : LO kdItem 50 wr A3 c3 d.1 fp3 := LO3.out.keep (fun q hq => HT.out.block q (LT3.out q hq) (by have := F3.out q hq; simp; omega))
        have K4 : LO kdRv 30 wr A4 c4 d.2.2 fp4 := LO4.out.keep (fun q hq => HT.out.block q (LT4.out q hq) (by have := F4.out q hq; simp; omega))
        have k1 : ∀ q, W0.heap.size ≤ q → q ≠ w.heap.size + 1 := fun q hq => by omega
        have kv : ∀ q ∈ fpv, W0.heap.size ≤ q := fun q hq => by rcases FV.out q hq with h | h <;> omega
        have ho := kdSh.mkOwn (d := d)
          (K3.keep (fun q hq => heap_set3 (g := w.heap.size + 1) (k1 q (F3.out q hq).1) (.slice A3 n c3) (.slice A5 n' c5) (.slice A4 m' c4)))
          (HV6.out.keep (fun q hq => heap_set3 (g := w.heap.size + 1) (k1 q (kv q hq)) (.slice A3 n c3) (.slice A5 n' c5) (.slice A4 m' c4)))
          (K4.keep (fun q hq => heap_set3 (g := w.heap.size + 1) (k1 q (F4.out q hq).1) (.slice A3 n c3) (.slice A5 n' c5) (.slice A4 m' c4)))
          (fun q hq hv => by have := F3.out q hq; have := LT3.out q hq; rcases FV.out q hv with h | h <;> omega) (fun q hq => (F3.out q hq).2.2.2) (fun q hq h4 => by have := F4.out q h4; have := LT4.out q h4; rcases FV.out q hq with h | h <;> omega)
        have hfr := kSm_fr (lo := w.heap.size) ho (fun q hq => by
          rw [List.mem_append, List.mem_append] at hq
          rcases hq with hq | hq | hq
          · have := (F3.out q hq).1; omega
          · have := kv q hq; omega
          · have := (F4.out q hq).1; omega)
        rw [hn.out, hn'.out, hm'.out] at hfr
        exact ⟨_, rfl, hfr, Ext.set3 (X.out.trans XT.out) (by omega) _ _ _⟩
end Go.Proofs.Ytofmfagdaiphaaa
