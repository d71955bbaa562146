/- A sheet of its own, by the reference. -/
import Derived.Test.YtmckompikbechaaCH
import Derived.Deep.DeepCutAuto
namespace Go.Proofs.Ytmckompikbechaa
open Go.RowKit Go.Sort
set_option linter.unusedVariables false
def partW (vs : List (List (List Int))) (x : List (List Int)) (k j : Nat) : List (List (List Int)) := vs.take k ++ x.take j :: List.replicate (2 - k) []
theorem partW_zero {vs : List (List (List Int))} (x : List (List Int)) {k : Nat} (h : k < 3) : partW vs x k 0 = vs.take k ++ List.replicate (3 - k) [] := by
  unfold partW
  rw [List.take_zero, show 3 - k = (2 - k) + 1 by omega, List.replicate_succ]
theorem partW_all {vs : List (List (List Int))} {x : List (List Int)} {k m : Nat} (h : k < 3) (hx : vs[k]? = some x) (hm : x.length = m) : partW vs x k m = vs.take (k + 1) ++ List.replicate (3 - (k + 1)) [] := by
  unfold partW
  obtain ⟨hk, rfl⟩ := List.getElem?_eq_some_iff.1 hx
  rw [List.take_of_length_le (l := vs[k]) (by omega), show 3 - (k + 1) = 2 - k by omega, List.take_succ_eq_append_getElem hk, List.append_assoc]
  rfl
theorem partW_at {vs : List (List (List Int))} (x : List (List Int)) (k j : Nat) (h : k < 3) (h3 : vs.length = 3) : (partW vs x k j)[k]? = some (x.take j) := by
  unfold partW
  have hl : (vs.take k).length = k := by rw [List.length_take]; omega
  rw [List.getElem?_append_right (by omega), hl, Nat.sub_self]
  rfl
theorem partW_set (vs : List (List (List Int))) (x : List (List Int)) (k j : Nat) (h : k < 3) (h3 : vs.length = 3) : (partW vs x k j).set k (x.take (j + 1)) = partW vs x k (j + 1) := by
  unfold partW
  have hl : (vs.take k).length = k := by rw [List.length_take]; omega
  rw [List.set_append_right _ _ (by omega), hl, Nat.sub_self]
  rfl
set_option maxRecDepth 100000 in
set_option maxHeartbeats 40000000 in
theorem s.caOwn_m (w : World) (v : Value) (d : ShD) (h : kSh.rd w v d) (hok : kSh.ok d) (hn' : Hid (d.2.1.length = 3)) :
    Calls Try.prog 70 #[v] w fun e w' => ∃ v', e = .returned v' ∧ kSh.fr w' w.heap.size w'.heap.size v' d ∧ Ext w w' := by
  obtain ⟨A, c, A', c', D, e, rfl, h1, h2, h3⟩ := kSh.lr h
  have hok' : kdSh.wt d ≤ 1048576 := hok
  rw [kdSh.wt_eq] at hok'
  have hw1 : wtL kdItem d.1 ≤ 1048576 := by have : kdItS.wt d.1 = wtL kdItem d.1 := rfl; omega
  have hw2 : wtL kdLL d.2.1 ≤ 1048576 := by have : kdLLL.wt d.2.1 = wtL kdLL d.2.1 := rfl; omega
  have hw3 : wtL kdRv d.2.2 ≤ 1048576 := by have : kdRvS.wt d.2.2 = wtL kdRv d.2.2 := rfl; omega
  have k3 := Nat.le_trans (wtL_len kdRv d.2.2) hw3
  have k2 := Nat.le_trans (wtL_len kdLL d.2.1) hw2
  have a1 := h1.1; have a2 := h1.2.1; have a3 := h2.1; have a4 := h2.2.1; have a5 := h3.1; have a6 := h3.2.1
  have ITO := hide (fun (wq : World) (xq : Ext w wq) => s.itOwn_any wq A c w.heap.size d.1 (h1.ext xq (Nat.le_refl _)) xq.size hw1)
  have H2 := hide h2
  have HW2 := hide hw2
  have RS := hide (fun (wq : World) (xq : Ext w wq) => (h3.ext xq (Nat.le_refl _)).rvSrc)
  have RL := hide (rvCs_len d.2.2)
  clear h h1 h2 h3 hok' hok hw1 hw2 hw3
  obtain ⟨n, hn⟩ : ∃ n, Hid (d.1.length = n) := ⟨_, rfl⟩
  obtain ⟨m', hm'⟩ : ∃ n', Hid (d.2.2.length = n') := ⟨_, rfl⟩
  rw [hn.out] at a1 ITO
  rw [hn'.out] at a3 k2
  rw [hm'.out] at a5 k3 RS RL
  rw [hn.out, hn'.out, hm'.out]
  obtain ⟨W0, hW0⟩ : ∃ W0, Hid (W0 = (w.alloc (.cells #[.slice A n c, .slice A' 3 c', .slice D m' e] 28)).alloc (.cells #[.slice none 0 0, .slice none 0 0, .slice none 0 0] 28)) := ⟨_, rfl⟩
  have X : Hid (Ext w W0) := by rw [hW0.out]; exact (Ext.alloc w _).trans (Ext.alloc _ _)
  have B0 : Hid (Blk W0 w.heap.size #[.slice A n c, .slice A' 3 c', .slice D m' e] 28) := by rw [hW0.out]; exact (Blk.new rfl _ _).alloc _
  have B1 : Hid (Blk W0 (w.heap.size + 1) #[.slice none 0 0, .slice none 0 0, .slice none 0 0] 28) := by rw [hW0.out]; exact Blk.new (by simp) _ _
  have SF : Hid (∀ w', Ext W0 w' → ∀ i, w'.cell? ⟨w.heap.size, i, none⟩ = #[Value.slice A n c, .slice A' 3 c', .slice D m' e][i]?) := fun w' xq => (B0.out.ext xq).cell
  have b1 : m' * 24 ≤ 140737488355328 := by omega
  have b2 : m' ≤ 4611686018427387904 := by omega
  have SRCF : Hid (∀ (wq : World), Ext W0 wq → m' = 0 ∨ ∃ b off, D = some ⟨b, off, none⟩ ∧ ∀ j u, (d.2.2.map rvCs).flatten[j]? = some u → wq.cell? ⟨b, off + j, none⟩ = some u) := fun wq xq => by
    rcases RS.out wq (X.out.trans xq) with h | ⟨b, off, h1, _, h2⟩
    · exact .inl h
    · exact .inr ⟨b, off, h1, h2⟩
  have c0_ := SF.out W0 (Ext.refl _)
  have MKR := hide (fun w => run_make_row' (P := Try.prog) 25 84 (.slice none 0 0) 24 Try.underlying25 info_rows rfl .i64 .i64 3 (by omega) (by omega) w)
  have mkr := MKR.out
  simp only [Int.cast_ofNat_Int] at mkr
  go_enter Try.func70, Try.ntmps70
  go_upto_region 1 with fail
  rw [← hW0.out]
  clear hW0
  go_cut [3] (fun s3 wx => ∃ (gb g5 : Nat) (A3 : Option Addr) (c3 : Nat) (fp3 : List Nat) (A4 : Option Addr) (c4 : Nat) (fp4 : List Nat), s3 = .pointer (some ⟨gb, 0, none⟩) ∧ Blk wx gb #[.slice A3 n c3, .slice (some ⟨g5, 0, none⟩) 3 3, .slice A4 m' c4] 28 ∧ LO kdItem 70 wx A3 c3 d.1 fp3 ∧ LO kdLL 84 wx (some ⟨g5, 0, none⟩) 3 (List.replicate 3 []) [g5] ∧ LO kdRv 47 wx A4 c4 d.2.2 fp4 ∧ (∀ i ∈ fp3, W0.heap.size ≤ i ∧ i ≠ gb ∧ i ≠ g5 ∧ i ∉ fp4) ∧ (∀ i ∈ fp4, W0.heap.size ≤ i ∧ i ≠ gb ∧ i ≠ g5) ∧ gb ≠ g5 ∧ W0.heap.size ≤ gb ∧ W0.heap.size ≤ g5 ∧ Ext W0 wx)
  case first =>
    go_region_held3 (fun w' => ∀ i, w'.cell? ⟨w.heap.size, i, none⟩ = #[Value.slice A n c, .slice A' 3 c', .slice D m' e][i]?)
      (exact SF.out _ (by repeat (first | with_reducible refine Ext.setC ?_ (by have := Y3.out.size; have := Y4.out.size; simp <;> omega) _ | with_reducible exact Y4.out | with_reducible exact Y3.out | with_reducible exact Ext.drew _ | with_reducible exact Ext.refl _ | with_reducible refine Ext.trans ?_ (Ext.alloc _ _) | with_reducible refine Ext.trans ?_ (Ext.drew _))))
      (first
      | (refine step_append_fresh (by rfl) (.tmp 12) (.tmp 14) (by rfl) elemN_rv (by decide) (by rfl) (by rfl) RL.out (SRCF.out _ (by (repeat (first | with_reducible exact Y3.out | with_reducible exact Ext.drew _ | with_reducible exact Ext.refl _ | with_reducible refine Ext.trans ?_ (Ext.alloc _ _) | with_reducible refine Ext.trans ?_ (Ext.drew _))))) (rvCs_one _) b1 b2 ?_; intro A4 c4 w4 x4 hr4; have h9 := (by (first | with_reducible exact Ext.bcellD x4 | exact Ext.bcell x4)); have hc4 := h9.1; have hf4 := h9.2; clear h9; have hz4 := x4.size; (try simp at hz4); (try (have : w3.heap.size < w4.heap.size := by omega)); (try (have : w3.heap.size ≠ w4.heap.size := by omega)); (try (have : w3.heap.size < w4.heap.size + 1 := by omega)); (try (have : w3.heap.size ≠ w4.heap.size + 1 := by omega)); (try (have : w3.heap.size < w4.heap.size + 1 + 1 := by omega)); (try (have : w3.heap.size ≠ w4.heap.size + 1 + 1 := by omega)); (try (have : w3.heap.size + 1 < w4.heap.size := by omega)); (try (have : w3.heap.size + 1 ≠ w4.heap.size := by omega)); (try (have : w3.heap.size + 1 < w4.heap.size + 1 := by omega)); (try (have : w3.heap.size + 1 ≠ w4.heap.size + 1 := by omega)); (try (have : w3.heap.size + 1 < w4.heap.size + 1 + 1 := by omega)); (try (have : w3.heap.size + 1 ≠ w4.heap.size + 1 + 1 := by omega)); (try (have : w3.heap.size + 1 + 1 < w4.heap.size := by omega)); (try (have : w3.heap.size + 1 + 1 ≠ w4.heap.size := by omega)); (try (have : w3.heap.size + 1 + 1 < w4.heap.size + 1 := by omega)); (try (have : w3.heap.size + 1 + 1 ≠ w4.heap.size + 1 := by omega)); (try (have : w3.heap.size + 1 + 1 < w4.heap.size + 1 + 1 := by omega)); (try (have : w3.heap.size + 1 + 1 ≠ w4.heap.size + 1 + 1 := by omega)); (try (have : W0.heap.size < w4.heap.size := by omega)); (try (have : W0.heap.size ≠ w4.heap.size := by omega)); (try (have : W0.heap.size < w4.heap.size + 1 := by omega)); (try (have : W0.heap.size ≠ w4.heap.size + 1 := by omega)); (try (have : W0.heap.size < w4.heap.size + 1 + 1 := by omega)); (try (have : W0.heap.size ≠ w4.heap.size + 1 + 1 := by omega)); (try (have : W0.heap.size + 1 < w4.heap.size := by omega)); (try (have : W0.heap.size + 1 ≠ w4.heap.size := by omega)); (try (have : W0.heap.size + 1 < w4.heap.size + 1 := by omega)); (try (have : W0.heap.size + 1 ≠ w4.heap.size + 1 := by omega)); (try (have : W0.heap.size + 1 < w4.heap.size + 1 + 1 := by omega)); (try (have : W0.heap.size + 1 ≠ w4.heap.size + 1 + 1 := by omega)); (try (have : W0.heap.size + 1 + 1 < w4.heap.size := by omega)); (try (have : W0.heap.size + 1 + 1 ≠ w4.heap.size := by omega)); (try (have : W0.heap.size + 1 + 1 < w4.heap.size + 1 := by omega)); (try (have : W0.heap.size + 1 + 1 ≠ w4.heap.size + 1 := by omega)); (try (have : W0.heap.size + 1 + 1 < w4.heap.size + 1 + 1 := by omega)); (try (have : W0.heap.size + 1 + 1 ≠ w4.heap.size + 1 + 1 := by omega)); obtain ⟨fp4, lo4, ff4⟩ := rv_done x4 (by (repeat (first | with_reducible exact Blk.new (by simp) _ _ | with_reducible refine Blk.alloc ?_ _ | with_reducible refine Blk.ext ?_ Z3.out | with_reducible refine Blk.ext ?_ (Ext.drew _)))) hm'.out hr4; (try simp at ff4); have LO4 := hide lo4; have F4 := hide ff4; have Z4 := hide x4; have Y4 : Hid (Ext W0 w4) := Ext.trans (by (repeat (first | with_reducible exact Y3.out | with_reducible exact Ext.drew _ | with_reducible exact Ext.refl _ | with_reducible refine Ext.trans ?_ (Ext.alloc _ _) | with_reducible refine Ext.trans ?_ (Ext.drew _)))) x4; clear hr4 x4 lo4 ff4)
      | (go_at_call 115; refine (ITO.out _ (X.out.trans (by (repeat (first | with_reducible exact Y4.out | with_reducible exact Ext.drew _ | with_reducible exact Ext.refl _ | with_reducible refine Ext.trans ?_ (Ext.alloc _ _) | with_reducible refine Ext.trans ?_ (Ext.drew _)))))).mono ?_; rintro e1 w3 ⟨A3, c3, fp3, rfl, hl3, hf3, x3⟩; have h9 := (by (first | with_reducible exact Ext.bcellD x3 | exact Ext.bcell x3)); have hc3 := h9.1; have hf3' := h9.2; clear h9; have hz3 := x3.size; (try simp at hz3); (try (have : w4.heap.size < w3.heap.size := by omega)); (try (have : w4.heap.size ≠ w3.heap.size := by omega)); (try (have : w4.heap.size < w3.heap.size + 1 := by omega)); (try (have : w4.heap.size ≠ w3.heap.size + 1 := by omega)); (try (have : w4.heap.size < w3.heap.size + 1 + 1 := by omega)); (try (have : w4.heap.size ≠ w3.heap.size + 1 + 1 := by omega)); (try (have : w4.heap.size + 1 < w3.heap.size := by omega)); (try (have : w4.heap.size + 1 ≠ w3.heap.size := by omega)); (try (have : w4.heap.size + 1 < w3.heap.size + 1 := by omega)); (try (have : w4.heap.size + 1 ≠ w3.heap.size + 1 := by omega)); (try (have : w4.heap.size + 1 < w3.heap.size + 1 + 1 := by omega)); (try (have : w4.heap.size + 1 ≠ w3.heap.size + 1 + 1 := by omega)); (try (have : w4.heap.size + 1 + 1 < w3.heap.size := by omega)); (try (have : w4.heap.size + 1 + 1 ≠ w3.heap.size := by omega)); (try (have : w4.heap.size + 1 + 1 < w3.heap.size + 1 := by omega)); (try (have : w4.heap.size + 1 + 1 ≠ w3.heap.size + 1 := by omega)); (try (have : w4.heap.size + 1 + 1 < w3.heap.size + 1 + 1 := by omega)); (try (have : w4.heap.size + 1 + 1 ≠ w3.heap.size + 1 + 1 := by omega)); (try (have : W0.heap.size < w3.heap.size := by omega)); (try (have : W0.heap.size ≠ w3.heap.size := by omega)); (try (have : W0.heap.size < w3.heap.size + 1 := by omega)); (try (have : W0.heap.size ≠ w3.heap.size + 1 := by omega)); (try (have : W0.heap.size < w3.heap.size + 1 + 1 := by omega)); (try (have : W0.heap.size ≠ w3.heap.size + 1 + 1 := by omega)); (try (have : W0.heap.size + 1 < w3.heap.size := by omega)); (try (have : W0.heap.size + 1 ≠ w3.heap.size := by omega)); (try (have : W0.heap.size + 1 < w3.heap.size + 1 := by omega)); (try (have : W0.heap.size + 1 ≠ w3.heap.size + 1 := by omega)); (try (have : W0.heap.size + 1 < w3.heap.size + 1 + 1 := by omega)); (try (have : W0.heap.size + 1 ≠ w3.heap.size + 1 + 1 := by omega)); (try (have : W0.heap.size + 1 + 1 < w3.heap.size := by omega)); (try (have : W0.heap.size + 1 + 1 ≠ w3.heap.size := by omega)); (try (have : W0.heap.size + 1 + 1 < w3.heap.size + 1 := by omega)); (try (have : W0.heap.size + 1 + 1 ≠ w3.heap.size + 1 := by omega)); (try (have : W0.heap.size + 1 + 1 < w3.heap.size + 1 + 1 := by omega)); (try (have : W0.heap.size + 1 + 1 ≠ w3.heap.size + 1 + 1 := by omega)); have Z3 := hide x3; have Y3 : Hid (Ext W0 w3) := Ext.trans (by (repeat (first | with_reducible exact Y4.out | with_reducible exact Ext.drew _ | with_reducible exact Ext.refl _ | with_reducible refine Ext.trans ?_ (Ext.alloc _ _) | with_reducible refine Ext.trans ?_ (Ext.drew _)))) x3; (try simp at hf3); have LO3 := hide hl3; have F3 := hide hf3; clear hl3 hf3 x3))
    all_goals
      have LT3 := LO3.out.lt; have FF3 := F3.out; have LT4 := LO4.out.lt; have FF4 := F4.out
      have y3 := Y3.out.size; have y4 := Y4.out.size
      go_wp2_with fail
      go_meet
      refine ⟨_, _, A3, c3, fp3, A4, c4, fp4, rfl, (by (repeat (first | with_reducible refine Blk.set3 (a := .slice none 0 0) (b := .slice none 0 0) (c := .slice none 0 0) ?_ _ _ _ | with_reducible exact Blk.new (by simp) _ _ | with_reducible refine Blk.alloc ?_ _ | with_reducible refine Blk.ext ?_ Z4.out | with_reducible refine Blk.ext ?_ Z3.out | with_reducible refine Blk.ext ?_ (Ext.drew _)))), (by (repeat (first | with_reducible exact LO3.out | with_reducible refine LO.ext ?_ (Ext.alloc _ _) | with_reducible refine LO.ext ?_ Z4.out | with_reducible refine LO.ext ?_ Z3.out | with_reducible refine LO.ext ?_ (Ext.drew _) | with_reducible refine LO.keep ?_ (fun i hi => heap_set3 (by have a1 := F3.out i hi; have a2 := LO3.out.lt i hi; omega) _ _ _)))), (by (repeat (first | with_reducible exact LO.madeVAt (by simp) | exact LO.madeVAt (by simp) | with_reducible refine LO.ext ?_ (Ext.alloc _ _) | with_reducible refine LO.ext ?_ Z4.out | with_reducible refine LO.ext ?_ Z3.out | with_reducible refine LO.ext ?_ (Ext.drew _) | with_reducible refine LO.keep ?_ (fun i hi => heap_set3 (by simp at hi; omega) _ _ _)))), (by (repeat (first | with_reducible exact LO4.out | with_reducible refine LO.ext ?_ (Ext.alloc _ _) | with_reducible refine LO.ext ?_ Z4.out | with_reducible refine LO.ext ?_ Z3.out | with_reducible refine LO.ext ?_ (Ext.drew _) | with_reducible refine LO.keep ?_ (fun i hi => heap_set3 (by have a1 := F4.out i hi; have a2 := LO4.out.lt i hi; omega) _ _ _)))), fun i hi => ⟨?_, ?_, ?_, fun hm => ?_⟩, fun i hi => ⟨?_, ?_, ?_⟩, ?_, ?_, ?_, (by (repeat (first | with_reducible refine Ext.set3 ?_ (by omega) _ _ _ | with_reducible exact Y4.out | with_reducible exact Y3.out | with_reducible exact Ext.drew _ | with_reducible exact Ext.refl _ | with_reducible refine Ext.trans ?_ (Ext.alloc _ _) | with_reducible refine Ext.trans ?_ (Ext.drew _))))⟩
      all_goals first | omega | (have a1 := FF3 i hi; have a2 := LT3 i hi; omega) | (have a1 := FF4 i hi; have a2 := LT4 i hi; omega) | (have a1 := FF3 i hi; have a2 := LT3 i hi; have a3 := FF4 i hm; have a4 := LT4 i hm; omega)
  case rest =>
    obtain ⟨gb, g5, A3, c3, fp3, A4, c4, fp4, rfl, hbl, hl3, hl5, hl4, hf3, hf4, hbg, hzb, hz5, hx⟩ := hcut
    have SB := hide hbl
    have LO3 := hide hl3
    have LO4 := hide hl4
    have F3 := hide hf3
    have F4 := hide hf4
    have XC := hide hx
    have zc := hx.size
    have gbl := hbl.lt
    have g5l := hl5.lt g5 (by simp)
    have LT3 := hide hl3.lt
    have LT4 := hide hl4.lt
    have BR := hide (B1.out.ext hx)
    have T0 := hide (TchF.refl [g5] wc)
    have V0' : Hid (LO kdLL 84 wc (some ⟨g5, 0, none⟩) 3 (d.2.1.take 0 ++ List.replicate (3 - 0) []) [g5]) := hl5
    have cF := SF.out wc hx
    have zw := X.out.size
    have zb0 := B0.out.lt
    have zb1 := B1.out.lt
    clear hbl hl3 hl5 hl4 hf3 hf4 hx SF SRCF RS RL ITO
    go_wp2
    clear cF
    go_loopw [20] (fun i0 wr => ∃ (k : Nat) (fpv : List Nat), k ≤ 3 ∧ i0 = .int .i64 k ∧ LO kdLL 84 wr (some ⟨g5, 0, none⟩) 3 (d.2.1.take k ++ List.replicate (3 - k) []) fpv ∧ (∀ i ∈ fpv, i = g5 ∨ wc.heap.size ≤ i) ∧ TchF [g5] wc wr) (fun i0 _ => 3 - (intOf i0).toNat)
    case atStart => exact ⟨0, _, Nat.zero_le _, rfl, V0'.out, fun i hi => by simp at hi; exact .inl hi, T0.out⟩
    case round =>
      obtain ⟨k, fpv, hk, rfl, hv, hfv, ht⟩ := hrel
      clear V0' T0
      have HV := hide hv
      have FV := hide hfv
      have HT := hide ht
      clear hv hfv ht
      obtain ⟨wo, rfl⟩ : ∃ wo : World, wo = wr := ⟨_, rfl⟩
      have zo := HT.out.size
      have XTo : Hid (Ext W0 wo) := XC.out.tchF HT.out (fun i hi => by simp at hi; omega)
      by_cases hlt : k < 3
      · obtain ⟨x, hxk⟩ : ∃ x, Hid (d.2.1[k]? = some x) := get_exN d.2.1 k (by rw [hn'.out]; exact hlt)
        rw [← partW_zero x hlt] at HV
        have hxw := kdLLL_row HW2.out hxk.out
        have k4 := Nat.le_trans (wtL_len kdL x) hxw
        have i3 : (k : Int) < 3 := by omega
        obtain ⟨b, off, Ak, ck, rfl, hb, hck0, hrk⟩ := H2.out.voteS k x hxk.out
        have hck := ((X.out.trans XTo.out).cell (p := ⟨b, off + k, none⟩) hb).trans hck0
        have HR := hide hrk
        clear hck0
        have HXW := hide hxw
        have hz := hrk.1; have hz2 := hrk.2.1
        obtain ⟨m, hm⟩ : ∃ m, Hid (x.length = m) := ⟨_, rfl⟩
        rw [hm.out] at hck hz k4
        clear hrk hxw
        go_wp2
        clear hck
        go_loopw [27] (fun i0 wr => ∃ (j : Nat) (fpv : List Nat), j ≤ m ∧ i0 = .int .i64 j ∧ LO kdLL 84 wr (some ⟨g5, 0, none⟩) 3 (partW d.2.1 x k j) fpv ∧ (∀ i ∈ fpv, i = g5 ∨ wc.heap.size ≤ i) ∧ TchF [g5] wc wr) (fun i0 _ => m - (intOf i0).toNat)
        case atStart => exact ⟨0, fpv, Nat.zero_le _, rfl, HV.out, FV.out, HT.out⟩
        case round =>
          obtain ⟨j, fpw, hj, rfl, hv, hfv, ht⟩ := hrel
          clear HV FV
          have HV := hide hv
          have FV := hide hfv
          have HT := hide ht
          clear hv hfv ht
          have z5 := HT.out.size
          have XT : Hid (Ext W0 wr) := XC.out.tchF HT.out (fun i hi => by simp at hi; omega)
          by_cases hlj : j < m
          · obtain ⟨y, hyj⟩ : ∃ y, Hid (x[j]? = some y) := get_exN x j (by rw [hm.out]; exact hlj)
            have HK : Hid (x.take (j + 1) = x.take j ++ [y]) := by
              obtain ⟨hj', e⟩ := List.getElem?_eq_some_iff.1 hyj.out
              show _ = _
              rw [List.take_succ_eq_append_getElem hj', e]
            have HLn : Hid ((x.take j).length = j) := by show _ = _; rw [List.length_take, hm.out]; omega
            obtain ⟨b2, off2, Ay, cy, rfl, hb2, hcy0, hry⟩ := HR.out.rowS j y hyj.out
            have hcy := ((X.out.trans XT.out).cell (p := ⟨b2, off2 + j, none⟩) hb2).trans hcy0
            have hyw := wtLL_row HXW.out hyj.out
            have CQ := hide (s.l1Own_any Ay y.length cy w.heap.size y wr.drew ((hry.ext ((X.out.trans XT.out).trans (Ext.drew _)) (Nat.le_refl _)).sl) (by show w.heap.size ≤ wr.heap.size; have := XT.out.size; omega) hyw)
            have hy1 := hry.1; have hy2 := hry.2.1
            obtain ⟨my, hmy⟩ : ∃ m, Hid (y.length = m) := ⟨_, rfl⟩
            rw [hmy.out] at hcy CQ hy1 hyw
            clear hcy0 hry
            obtain ⟨g', cs, fk, hat⟩ := HV.out.at_ k _ (partW_at x k j hlt hn'.out)
            have hga := hat.addr
            simp only [Option.some.injEq, Addr.mk.injEq, and_true] at hga
            subst hga
            obtain ⟨Aj, cj, rfl, hlk⟩ := hat.own
            have cK := hat.cell 0 _ rfl
            rw [show k * kdLL.size + 0 = k from by show k * 1 + 0 = k; omega, HLn.out] at cK
            have fK := hat.free k
            have ocp := hlk.cap
            rw [HLn.out] at ocp
            have oc1 := ocp.1; have oc2 := ocp.2
            have SBr := hide (SB.out.tchF HT.out (by simp; omega))
            have LVt := hide HV.out.lt
            have HAT := hide hat
            have FK := hide hat.sub
            have LK := hide hlk
            have b1 : (j + 1) * 24 ≤ 140737488355328 := by omega
            have b2_ : j + 1 ≤ 4611686018427387904 := by omega
            clear hat hlk ocp
            have cS := SBr.out.cell
            have g5w : g5 < wr.heap.size := by omega
            have ij : (j : Int) < m := by omega
            go_wp2
            go_region_law (first
              | (refine step_append_LOI (K := kdL) (by rfl) (.tmp 38) (.tmp 41) (by rfl) elemN_row (by decide) HLn.out.symm (by rfl) (by rfl) LO1.out KO1.out D1.out D2.out b1 b2_ ?_; intro A10 c10 w10 fp10 hap; have HA := hide hap; have E10 : w10.heap[g5]? = w3.heap[g5]? := (hap.tch.block g5 (by simp; omega) (fun hm => (FK.out g5 hm).2 rfl)).trans (Below.heap_alloc w3 _ g5 (by omega)); have c10_ : w10.cell? ⟨g5, k, none⟩ = some (.slice Aj j cj) := (World.cell?_of_block (E10.trans E3.out)).trans cK; have f10_ : w10.frozen? ⟨g5, k, none⟩ = false := (World.frozen?_of_block (w := wr) (E10.trans E3.out)).trans fK; have cS9 := (SBx.out.tchF hap.tch (fun hm => by rcases FV.out gb (FK.out gb hm).1 with h | h <;> omega)).cell; clear hap E10)
              | (go_simp; go_at_call 126; refine CQ.out.mono ?_; rintro e1 w3 ⟨A1, c1, rfl, o1, x1⟩; have z3 : wr.heap.size ≤ w3.heap.size := x1.size; have E3 : Hid (w3.heap[g5]? = wr.heap[g5]?) := (TchF.of_ext (fp := []) ((Ext.drew wr).trans x1)).block g5 g5w (by simp); have c3_ : w3.cell? ⟨g5, k, none⟩ = some (.slice Aj j cj) := (World.cell?_of_block E3.out).trans cK; have E3x : (w3.alloc (.cells #[.slice A1 my c1] 51)).heap[g5]? = wr.heap[g5]? := (Below.heap_alloc w3 _ g5 (by omega)).trans E3.out; have c3x : (w3.alloc (.cells #[.slice A1 my c1] 51)).cell? ⟨g5, k, none⟩ = some (.slice Aj j cj) := (World.cell?_of_block E3x).trans cK; have SB3 := (SBr.out.ext (Ext.drew _)).ext x1; have SBx := hide (SB3.alloc (.cells #[.slice A1 my c1] 51)); have cS3 := SB3.cell; have cSx := SBx.out.cell; have X3 := hide x1; have HLm : Hid (my = y.length) := hmy.out.symm; have LO1 := hide (((LK.out.ext (Ext.drew _)).ext x1).ext (Ext.alloc w3 (.cells #[.slice A1 my c1] 51))); have KO1 := hide (kdL.own_ext (own_rowL o1) (Ext.alloc w3 (.cells #[.slice A1 my c1] 51))); have G1 : Hid (∀ i ∈ (A1.map (·.block)).toList, wr.heap.size ≤ i) := OwnI.fpLo o1; have D1 : Hid (∀ i ∈ (A1.map (·.block)).toList, i ∉ fk) := (fun i hi hq => by have := G1.out i hi; have := LVt.out i (FK.out i hq).1; omega); have D2 : Hid (∀ j u, [Value.slice A1 my c1][j]? = some u → (w3.alloc (.cells #[.slice A1 my c1] 51)).cell? ⟨w3.heap.size, 0 + j, none⟩ = some u) := fun q u hu => (by cases q with | zero => simp at hu; subst hu; exact (cellN (w := w3) rfl #[.slice A1 my c1] 51 0).trans rfl | succ q => simp at hu); clear x1 o1 SB3 E3x))
            all_goals
              have XL := hide (((Ext.drew wr).trans X3.out).trans (Ext.alloc w3 (.cells #[.slice A1 my c1] 51)))
              obtain ⟨fpN, hN, hsN⟩ := HAT.out.store w10 [.slice A10 (j + 1) c10] (x.take (j + 1)) fp10 (by rw [HK.out]; exact own_rowLL HA.out.own (by rw [List.length_append, HLn.out]; rfl)) ((TchF.of_ext XL.out).trans HA.out.tch) (fun i hi => by
                rcases HA.out.sub i hi with h | h | h
                · exact .inl h
                · exact .inr (fun hm => by have := G1.out i h; have := LVt.out i hm; omega)
                · refine .inr (fun hm => ?_)
                  have := LVt.out i hm
                  rw [h] at this
                  simp at this
                  omega)
              rw [one_cells w10 g5 k _ kdLL.size rfl, partW_set _ _ _ _ hlt hn'.out] at hN
              have HN := hide hN
              have FN : Hid (∀ i ∈ fpN, i = g5 ∨ wc.heap.size ≤ i) := fun i hi => by
                rcases hsN i hi with h | h
                · exact FV.out i h
                · rcases HA.out.sub i h with h | h | h
                  · exact FV.out i (FK.out i h).1
                  · have := G1.out i h; exact .inr (by omega)
                  · refine .inr ?_
                    rw [h]
                    simp
                    omega
              have TN : Hid (TchF [g5] wc (w10.setCell ⟨g5, k, none⟩ (.slice A10 (j + 1) c10))) := ((HT.out.trans (TchF.of_ext XL.out)).trans_new HA.out.tch (fun i hi => by rcases FV.out i (FK.out i hi).1 with h | h; exact .inl (by simp [h]); exact .inr h)).trans (TchF.set1 _ _ _ (by simp))
              clear hN hsN cS cS3 cSx cS9 c10_ f10_ c3_ c3x
              generalize w10.setCell ⟨g5, k, none⟩ (.slice A10 (j + 1) c10) = w11 at *
              go_wp2
              go_roundw
              case rel => exact ⟨j + 1, fpN, by omega, by go_num, HN.out, FN.out, TN.out⟩
              case measure => simp [intOf]; omega
          · have ej : m = j := by omega
            subst ej
            rw [partW_all hlt hxk.out hm.out] at HV
            go_wp2
            go_roundw
            case rel => exact ⟨k + 1, fpw, by omega, by go_num, HV.out, FV.out, HT.out⟩
            case measure => simp [intOf]; omega
      · have ek : k = 3 := by omega
        subst ek
        have HV6 : Hid (LO kdLL 84 wo (some ⟨g5, 0, none⟩) 3 d.2.1 fpv) := by
          have h8 := HV.out
          rwa [List.take_of_length_le (by rw [hn'.out]; exact Nat.le_refl _), show List.replicate (3 - 3) ([] : List (List Int)) = [] from rfl, List.append_nil] at h8
        have BRr := hide (BR.out.tchF HT.out (by simp; omega))
        have SBk := hide (SB.out.tchF HT.out (by simp; omega))
        have cS := SBk.out.cell
        have cR := BRr.out.cell; have fR := BRr.out.free
        have gr : gb ≠ w.heap.size + 1 := by omega
        go_wp2_with fail
        have cE := (BRr.out.set3 (.slice A3 n c3) (.slice (some ⟨g5, 0, none⟩) 3 3) (.slice A4 m' c4)).cell
        refine bodyPost_ret (v := .agg #[.slice A3 n c3, .slice (some ⟨g5, 0, none⟩) 3 3, .slice A4 m' c4]) (by simp [results, Try.results70, go_sem, cE]) rfl ?_
        have K3 : LO kdItem 70 wo A3 c3 d.1 fp3 := LO3.out.keep (fun q hq => HT.out.block q (LT3.out q hq) (by have := F3.out q hq; simp; omega))
        have K4 : LO kdRv 47 wo A4 c4 d.2.2 fp4 := LO4.out.keep (fun q hq => HT.out.block q (LT4.out q hq) (by have := F4.out q hq; simp; omega))
        have k1 : ∀ q, W0.heap.size ≤ q → q ≠ w.heap.size + 1 := fun q hq => by omega
        have kv : ∀ q ∈ fpv, W0.heap.size ≤ q := fun q hq => by rcases FV.out q hq with h | h <;> omega
        have ho := kdSh.mkOwn (d := d)
          (K3.keep (fun q hq => heap_set3 (g := w.heap.size + 1) (k1 q (F3.out q hq).1) (.slice A3 n c3) (.slice (some ⟨g5, 0, none⟩) 3 3) (.slice A4 m' c4)))
          (HV6.out.keep (fun q hq => heap_set3 (g := w.heap.size + 1) (k1 q (kv q hq)) (.slice A3 n c3) (.slice (some ⟨g5, 0, none⟩) 3 3) (.slice A4 m' c4)))
          (K4.keep (fun q hq => heap_set3 (g := w.heap.size + 1) (k1 q (F4.out q hq).1) (.slice A3 n c3) (.slice (some ⟨g5, 0, none⟩) 3 3) (.slice A4 m' c4)))
          (fun q hq hv => by have := F3.out q hq; have := LT3.out q hq; rcases FV.out q hv with h | h <;> omega) (fun q hq => (F3.out q hq).2.2.2) (fun q hq h4 => by have := F4.out q h4; have := LT4.out q h4; rcases FV.out q hq with h | h <;> omega)
        have hfr := kSm_fr (lo := w.heap.size) ho (fun q hq => by
          rw [List.mem_append, List.mem_append] at hq
          rcases hq with hq | hq | hq
          · have := (F3.out q hq).1; omega
          · have := kv q hq; omega
          · have := (F4.out q hq).1; omega)
        rw [hn.out, hn'.out, hm'.out] at hfr
        exact ⟨_, rfl, hfr, Ext.set3 (X.out.trans XTo.out) (by omega) _ _ _⟩
end Go.Proofs.Ytmckompikbechaa
