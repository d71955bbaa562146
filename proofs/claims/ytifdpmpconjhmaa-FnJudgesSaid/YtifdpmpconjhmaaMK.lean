/- The reference's copy of marks. -/
import Derived.Test.YtifdpmpconjhmaaMJ
namespace Go.Proofs.Ytifdpmpconjhmaa
open Go.RowKit Go.Sort
set_option linter.unusedVariables false

theorem row_src (w : World) (u : Value) (t : TypeId) : ∀ j v, [u][j]? = some v → (w.alloc (.cells #[u] t)).cell? ⟨w.heap.size, 0 + j, none⟩ = some v := by
  intro j v h
  cases j with
  | zero => simp at h; subst h; simp [World.cell?_alloc_at]
  | succ j => simp at h

set_option maxRecDepth 100000 in
set_option maxHeartbeats 4000000 in
theorem s.mkOwn_any (w : World) (v : Value) (d : MD) (h : kM.rd w v d) (hok : kM.ok d) :
    Calls Try.prog 28 #[v] w fun e w' => ∃ v', e = .returned v' ∧ kM.fr w' w.heap.size w'.heap.size v' d ∧ Ext w w' := by
  obtain ⟨A, c, A', c', rfl, h1, h2⟩ := kM.lr h
  have hok : kdM.wt d ≤ 1048576 := hok
  have hw1 : kdLL.wt d.1 ≤ 1048576 := by have : kdM.wt d = kdLL.wt d.1 + kdLL.wt d.2 := rfl; omega
  have hw2 : kdLL.wt d.2 ≤ 1048576 := by have : kdM.wt d = kdLL.wt d.1 + kdLL.wt d.2 := rfl; omega
  have hwx : ∀ (xs : List (List Int)), kdLL.wt xs ≤ 1048576 → xs.length ≤ 1048576 ∧ ∀ x ∈ xs, x.length ≤ 1048576 := fun xs hw => by
    have h9 : kdLL.wt xs = wtL kdL xs := rfl
    have hlen := wtL_len kdL xs
    refine ⟨by omega, fun x hx => ?_⟩
    obtain ⟨k, hk⟩ := List.getElem?_of_mem hx
    have h5 := wtL_at kdL xs k x hk
    have h6 : kdL.wt x = x.length := wtL_int x
    omega
  have l1 := (hwx _ hw1).1
  have l2 := (hwx _ hw2).1
  have HR1 := hide (hwx _ hw1).2
  have HR2 := hide (hwx _ hw2).2
  have H1 := hide h1
  have H2 := hide h2
  have a1 := h1.1; have a2 := h1.2.1; have a3 := h2.1; have a4 := h2.2.1
  clear h h1 h2 hwx hw1 hw2 hok
  obtain ⟨n, hn⟩ : ∃ n, Hid (d.1.length = n) := ⟨_, rfl⟩
  obtain ⟨n', hn'⟩ : ∃ n', Hid (d.2.length = n') := ⟨_, rfl⟩
  rw [hn.out, hn'.out]
  rw [hn.out] at a1 l1
  rw [hn'.out] at a3 l2
  obtain ⟨W0, hW0⟩ : ∃ W0, Hid (W0 = ((w.alloc (.cells #[.slice A n c, .slice A' n' c'] 25)).alloc (.cells #[.slice none 0 0, .slice none 0 0] 25)).alloc (.cells #[.slice none 0 0, .slice none 0 0] 25)) := ⟨_, rfl⟩
  have X0 : Hid (Ext w W0) := by rw [hW0.out]; exact ((Ext.alloc w _).trans (Ext.alloc _ _)).trans (Ext.alloc _ _)
  have B0 : Hid (Blk W0 w.heap.size #[.slice A n c, .slice A' n' c'] 25) := by rw [hW0.out]; exact ((Blk.new rfl _ _).alloc _).alloc _
  have B1 : Hid (Blk W0 (w.heap.size + 1) #[.slice none 0 0, .slice none 0 0] 25) := by rw [hW0.out]; exact (Blk.new (by simp) _ _).alloc _
  have B2 : Hid (Blk W0 (w.heap.size + 1 + 1) #[.slice none 0 0, .slice none 0 0] 25) := by rw [hW0.out]; exact Blk.new (by simp) _ _
  have cB : ∀ i, (((w.alloc (.cells #[.slice A n c, .slice A' n' c'] 25)).alloc (.cells #[.slice none 0 0, .slice none 0 0] 25)).alloc (.cells #[.slice none 0 0, .slice none 0 0] 25)).cell? ⟨w.heap.size, i, none⟩ = #[Value.slice A n c, .slice A' n' c'][i]? := by rw [← hW0.out]; exact B0.out.cell
  go_enter Try.func28, Try.ntmps28
  go_wp2
  rw [← hW0.out]
  clear cB hW0
  go_loopw [12] (fun i wr => ∃ (k : Nat) (A1 : Option Addr) (c1 : Nat) (fp : List Nat), k ≤ n ∧ i = .int .i64 k ∧ Blk wr (w.heap.size + 1 + 1) #[.slice A1 k c1, .slice none 0 0] 25 ∧ LO kdL 36 wr A1 c1 (d.1.take k) fp ∧ (∀ i ∈ fp, w.heap.size + 1 + 1 < i) ∧ Blk wr w.heap.size #[.slice A n c, .slice A' n' c'] 25 ∧ Blk wr (w.heap.size + 1) #[.slice none 0 0, .slice none 0 0] 25 ∧ Ext w wr) (fun i _ => n - (intOf i).toNat)
  case atStart => exact ⟨0, none, 0, [], Nat.zero_le _, rfl, B2.out, LO.none_, by simp, B0.out, B1.out, X0.out⟩
  case round =>
    obtain ⟨k, A1, c1, fp, hk, rfl, hb2, hown, hfp, hb0, hb1, hx⟩ := hrel
    clear B0 B1 B2 X0
    have B0 := hide hb0
    have B1 := hide hb1
    have B2 := hide hb2
    have HO := hide hown
    have HF := hide hfp
    have HX := hide hx
    clear hb0 hb1 hb2 hown hfp hx
    by_cases hlt : k < n
    · obtain ⟨x, hxk⟩ : ∃ x, Hid (d.1[k]? = some x) := ⟨_, List.getElem?_eq_getElem (by rw [hn.out]; exact hlt)⟩
      have hx9 := HR1.out x (List.mem_of_getElem? hxk.out)
      obtain ⟨b, off, Ak, ck, rfl, hb, hck, hrk⟩ := H1.out.row HX.out (Nat.le_refl _) hxk.out
      have hq := s.l1Own_any Ak x.length ck w.heap.size x wr.drew hrk.sl (by exact HX.out.size) hx9
      have HQ := hide hq
      have hz := hrk.1
      clear hq hrk
      have HK : Hid (d.1.take (k + 1) = d.1.take k ++ [x]) := by
        obtain ⟨hk', e⟩ := List.getElem?_eq_some_iff.1 hxk.out
        show _ = _
        rw [List.take_succ_eq_append_getElem hk', e]
      have HL : Hid ((d.1.take k).length = k) := by show _ = _; rw [List.length_take, hn.out]; omega
      have LT := hide HO.out.lt
      obtain ⟨m, hm⟩ : ∃ m, Hid (x.length = m) := ⟨_, rfl⟩
      rw [hm.out] at hx9 hck hz HQ
      have q2 := B2.out.cell
      have b1 : (k + 1) * 24 ≤ 140737488355328 := by omega
      have b2 : k + 1 ≤ 4611686018427387904 := by omega
      go_wp2
      go_region_law (first
        | (go_simp; go_at_call 46; refine HQ.out.mono ?_; rintro e w1 ⟨A2, c2, rfl, o1, x1⟩; have Y1 := hide ((Ext.drew wr).trans x1); have LO1 := hide ((HO.out.ext Y1.out).ext (Ext.alloc w1 (.cells #[.slice A2 m c2] 36))); have KO1 := hide (kdL.own_ext (own_row o1) (Ext.alloc w1 (.cells #[.slice A2 m c2] 36))); have FL := hide (OwnI.fpLo o1); have B2w := hide (B2.out.ext Y1.out); have B2a := hide (B2w.out.alloc (.cells #[.slice A2 m c2] 36)); have cw := B2w.out.cell; have ca := B2a.out.cell; have D1 : Hid (∀ i ∈ (A2.map (·.block)).toList, i ∉ fp) := (fun i hi hm => by have h8 : wr.heap.size ≤ i := FL.out i hi; have h9 := LT.out i hm; omega); have D2 := hide (row_src w1 (.slice A2 m c2) 36); have Y2 := hide (Y1.out.trans (Ext.alloc w1 (.cells #[.slice A2 m c2] 36))); clear o1 x1)
        | (refine step_append_LO (K := kdL) (by rfl) (.tmp 17) (.tmp 20) (by rfl) elemN_row (by decide) HL.out.symm (by rfl) (by rfl) LO1.out KO1.out D1.out D2.out b1 b2 ?_; intro A3 c3 w3 fp3 hap; have HA := hide hap; have B2' := hide (B2a.out.tchF HA.out.tch (fun h => by have := HF.out _ h; omega)); have c3_ := B2'.out.cell; have f3_ := B2'.out.free; clear hap))
      all_goals
        go_wp2
        go_roundw
        case rel =>
          have z1 := B2.out.lt
          have z2 := Y2.out.size
          have nf : ∀ g, g ≤ w.heap.size + 1 + 1 → g ∉ fp := fun g hg h => by have := HF.out g h; omega
          have nf3 : ∀ i ∈ fp3, w.heap.size + 1 + 1 < i := fun i hi => by
            rcases HA.out.sub i hi with h | h | h
            · exact HF.out i h
            · have h8 : wr.heap.size ≤ i := FL.out i h
              omega
            · rw [h]; omega
          exact ⟨k + 1, A3, c3, fp3, by omega, by go_num, B2'.out.set 0 _, by rw [HK.out]; exact HA.out.own.keep (fun i hi => Below.heap_setCell _ _ _ _ (by have := nf3 i hi; simp; omega)), nf3, (((B0.out.ext Y2.out).tchF HA.out.tch (nf _ (by omega))).far (by simp; omega) _), (((B1.out.ext Y2.out).tchF HA.out.tch (nf _ (by omega))).far (by simp) _), Below.setCell ((HX.out.trans Y2.out).tchF HA.out.tch (fun i hi => by have := HF.out i hi; omega)) (by simp <;> omega) _⟩
        case measure => simp [intOf]; omega
    · have ek : n = k := by omega
      subst ek
      replace HO : Hid (LO kdL 36 wr A1 c1 d.1 fp) := by have := HO.out; rwa [List.take_of_length_le (by rw [hn.out]; exact Nat.le_refl _)] at this
      obtain ⟨Af, cf, ff, B2f, HOf, HFf⟩ : ∃ Af cf ff, Hid (Blk wr (w.heap.size + 1 + 1) #[.slice Af n cf, .slice none 0 0] 25) ∧ Hid (LO kdL 36 wr Af cf d.1 ff) ∧ Hid (∀ i ∈ ff, w.heap.size + 1 + 1 < i) := ⟨A1, c1, fp, B2, HO, HF⟩
      clear HO HF B2 A1 c1 fp
      have B2 := B2f
      clear B2f
      have cB := B0.out.cell
      go_wp2
      clear cB
      go_loopw [27] (fun i wr => ∃ (k : Nat) (A1 : Option Addr) (c1 : Nat) (fp : List Nat), k ≤ n' ∧ i = .int .i64 k ∧ Blk wr (w.heap.size + 1 + 1) #[.slice Af n cf, .slice A1 k c1] 25 ∧ LO kdL 36 wr A1 c1 (d.2.take k) fp ∧ (∀ i ∈ fp, w.heap.size + 1 + 1 < i ∧ i ∉ ff) ∧ Blk wr w.heap.size #[.slice A n c, .slice A' n' c'] 25 ∧ Blk wr (w.heap.size + 1) #[.slice none 0 0, .slice none 0 0] 25 ∧ Ext w wr ∧ LO kdL 36 wr Af cf d.1 ff) (fun i _ => n' - (intOf i).toNat)
      case atStart => exact ⟨0, none, 0, [], Nat.zero_le _, rfl, B2.out, LO.none_, by simp, B0.out, B1.out, HX.out, HOf.out⟩
      case round =>
        obtain ⟨k, A1, c1, fp, hk, rfl, hb2, hown, hfp, hb0, hb1, hx, hmf⟩ := hrel
        clear B0 B1 B2 HX HOf
        have B0 := hide hb0
        have B1 := hide hb1
        have B2 := hide hb2
        have HO := hide hown
        have HF := hide hfp
        have HX := hide hx
        have HOf := hide hmf
        clear hmf
        clear hb0 hb1 hb2 hown hfp hx
        by_cases hlt : k < n'
        · obtain ⟨x, hxk⟩ : ∃ x, Hid (d.2[k]? = some x) := ⟨_, List.getElem?_eq_getElem (by rw [hn'.out]; exact hlt)⟩
          have hx9 := HR2.out x (List.mem_of_getElem? hxk.out)
          obtain ⟨b, off, Ak, ck, rfl, hb, hck, hrk⟩ := H2.out.row HX.out (Nat.le_refl _) hxk.out
          have hq := s.l1Own_any Ak x.length ck w.heap.size x wr.drew hrk.sl (by exact HX.out.size) hx9
          have HQ := hide hq
          have hz := hrk.1
          clear hq hrk
          have HK : Hid (d.2.take (k + 1) = d.2.take k ++ [x]) := by
            obtain ⟨hk', e⟩ := List.getElem?_eq_some_iff.1 hxk.out
            show _ = _
            rw [List.take_succ_eq_append_getElem hk', e]
          have HL : Hid ((d.2.take k).length = k) := by show _ = _; rw [List.length_take, hn'.out]; omega
          have LT := hide HO.out.lt
          obtain ⟨m, hm⟩ : ∃ m, Hid (x.length = m) := ⟨_, rfl⟩
          rw [hm.out] at hx9 hck hz HQ
          have q2 := B2.out.cell
          have b1 : (k + 1) * 24 ≤ 140737488355328 := by omega
          have b2 : k + 1 ≤ 4611686018427387904 := by omega
          go_wp2
          go_region_law (first
            | (go_simp; go_at_call 46; refine HQ.out.mono ?_; rintro e w1 ⟨A2, c2, rfl, o1, x1⟩; have Y1 := hide ((Ext.drew wr).trans x1); have LO1 := hide ((HO.out.ext Y1.out).ext (Ext.alloc w1 (.cells #[.slice A2 m c2] 36))); have KO1 := hide (kdL.own_ext (own_row o1) (Ext.alloc w1 (.cells #[.slice A2 m c2] 36))); have FL := hide (OwnI.fpLo o1); have B2w := hide (B2.out.ext Y1.out); have B2a := hide (B2w.out.alloc (.cells #[.slice A2 m c2] 36)); have cw := B2w.out.cell; have ca := B2a.out.cell; have D1 : Hid (∀ i ∈ (A2.map (·.block)).toList, i ∉ fp) := (fun i hi hm => by have h8 : wr.heap.size ≤ i := FL.out i hi; have h9 := LT.out i hm; omega); have D2 := hide (row_src w1 (.slice A2 m c2) 36); have Y2 := hide (Y1.out.trans (Ext.alloc w1 (.cells #[.slice A2 m c2] 36))); clear o1 x1)
            | (refine step_append_LO (K := kdL) (by rfl) (.tmp 32) (.tmp 35) (by rfl) elemN_row (by decide) HL.out.symm (by rfl) (by rfl) LO1.out KO1.out D1.out D2.out b1 b2 ?_; intro A3 c3 w3 fp3 hap; have HA := hide hap; have B2' := hide (B2a.out.tchF HA.out.tch (fun h => by have := HF.out _ h; omega)); have c3_ := B2'.out.cell; have f3_ := B2'.out.free; clear hap))
          all_goals
            go_wp2
            go_roundw
            case rel =>
              have z1 := B2.out.lt
              have z2 := Y2.out.size
              have nf : ∀ g, g ≤ w.heap.size + 1 + 1 → g ∉ fp := fun g hg h => by have := HF.out g h; omega
              have nf3 : ∀ i ∈ fp3, w.heap.size + 1 + 1 < i ∧ i ∉ ff := fun i hi => by
                rcases HA.out.sub i hi with h | h | h
                · exact HF.out i h
                · have h8 : wr.heap.size ≤ i := FL.out i h
                  exact ⟨by omega, fun hm => by have := HOf.out.lt i hm; omega⟩
                · rw [h]; exact ⟨by omega, fun hm => by have := HOf.out.lt _ hm; omega⟩
              exact ⟨k + 1, A3, c3, fp3, by omega, by go_num, B2'.out.set 1 _, by rw [HK.out]; exact HA.out.own.keep (fun i hi => Below.heap_setCell _ _ _ _ (by have := nf3 i hi; simp; omega)), nf3, (((B0.out.ext Y2.out).tchF HA.out.tch (nf _ (by omega))).far (by simp; omega) _), (((B1.out.ext Y2.out).tchF HA.out.tch (nf _ (by omega))).far (by simp) _), Below.setCell ((HX.out.trans Y2.out).tchF HA.out.tch (fun i hi => by have := HF.out i hi; omega)) (by simp <;> omega) _, ((HOf.out.ext Y2.out).keep (fun i hi => HA.out.tch.block i (by have := HOf.out.lt i hi; omega) (fun h => (HF.out i h).2 hi))).keep (fun i hi => Below.heap_setCell _ _ _ _ (by have := HFf.out i hi; simp; omega))⟩
            case measure => simp [intOf]; omega
        · have ek : n' = k := by omega
          subst ek
          replace HO : Hid (LO kdL 36 wr A1 c1 d.2 fp) := by have := HO.out; rwa [List.take_of_length_le (by rw [hn'.out]; exact Nat.le_refl _)] at this
          have c2_ := B2.out.cell; have c1_ := B1.out.cell; have f1_ := B1.out.free
          go_wp2
          refine bodyPost_ret (v := .agg #[.slice Af n cf, .slice A1 n' c1]) (by simp [results, Try.results28, go_sem, c1_]) rfl ?_
          have hk : ∀ i, w.heap.size + 1 + 1 < i → ((wr.setCell ⟨w.heap.size + 1, 0, none⟩ (.slice Af n cf)).setCell ⟨w.heap.size + 1, 1, none⟩ (.slice A1 n' c1)).heap[i]? = wr.heap[i]? := by
            intro i hi
            rw [Below.heap_setCell _ _ _ _ (by simp; omega), Below.heap_setCell _ _ _ _ (by simp; omega)]
          refine ⟨_, rfl, kM.mk (HOf.out.keep (fun i hi => hk i (HFf.out i hi))) (HO.out.keep (fun i hi => hk i (HF.out i hi).1)) hn.out.symm hn'.out.symm (fun i hi => ?_) (fun i hi => ?_) (fun i hi hi' => (HF.out i hi').2 hi), Below.setCell (Below.setCell HX.out (by simp) _) (by simp) _⟩
          · have := HFf.out i hi; have := HOf.out.lt i hi; simp; omega
          · have := HF.out i hi; have := HO.out.lt i hi; simp; omega
end Go.Proofs.Ytifdpmpconjhmaa
