/- A judge dropped: the reference's functions. -/
import Derived.Test.YtifdpmpconjhmaaMR
namespace Go.Proofs.Ytifdpmpconjhmaa
open Go.RowKit Go.Sort
set_option linter.unusedVariables false

set_option maxRecDepth 100000 in
set_option maxHeartbeats 4000000 in
theorem s.mkWithout_any (w : World) (v : Value) (d : MD) (j : Nat) (h : kM.rd w v d) (hok : kM.ok d) (hrw : (∀ x ∈ d.1, j < x.length ∧ x.length ≤ 9) ∧ (∀ x ∈ d.2, j < x.length ∧ x.length ≤ 9)) :
    Calls Try.prog 35 #[v, .int .i64 j] w fun e w' => ∃ v', e = .returned v' ∧ kM.fr w' w.heap.size w'.heap.size v' (d.1.map (cutJ j), d.2.map (cutJ j)) ∧ Ext w w' := by
  obtain ⟨A, c, A', c', rfl, h1, h2⟩ := kM.lr h
  have hok : kdM.wt d ≤ 1048576 := hok
  have hw1 : kdLL.wt d.1 ≤ 1048576 := by have : kdM.wt d = kdLL.wt d.1 + kdLL.wt d.2 := rfl; omega
  have hw2 : kdLL.wt d.2 ≤ 1048576 := by have : kdM.wt d = kdLL.wt d.1 + kdLL.wt d.2 := rfl; omega
  have hwx : ∀ (xs : List (List Int)), kdLL.wt xs ≤ 1048576 → xs.length ≤ 1048576 ∧ ∀ x ∈ xs, x.length ≤ 1048576 := fun xs hw => by
    have h9 : kdLL.wt xs = wtL kdL xs := rfl
    have hlen := wtL_len kdL xs
    refine ⟨by omega, fun x hx => ?_⟩
    obtain ⟨k, hk⟩ := List.getElem?_of_mem hx
    have h5 := wtL_at kdL xs k x hk
    have h6 : kdL.wt x = x.length := wtL_int x
    omega
  have l1 := (hwx _ hw1).1
  have l2 := (hwx _ hw2).1
  have HR1 := hide hrw.1
  have HR2 := hide hrw.2
  have H1 := hide h1
  have H2 := hide h2
  have a1 := h1.1; have a2 := h1.2.1; have a3 := h2.1; have a4 := h2.2.1
  clear h h1 h2 hwx hw1 hw2 hok hrw
  obtain ⟨n, hn⟩ : ∃ n, Hid (d.1.length = n) := ⟨_, rfl⟩
  obtain ⟨n', hn'⟩ : ∃ n', Hid (d.2.length = n') := ⟨_, rfl⟩
  rw [hn.out, hn'.out]
  rw [hn.out] at a1 l1
  rw [hn'.out] at a3 l2
  obtain ⟨W0, hW0⟩ : ∃ W0, Hid (W0 = ((w.alloc (.cells #[.slice A n c, .slice A' n' c'] 25)).alloc (.cells #[.slice none 0 0, .slice none 0 0] 25)).alloc (.cells #[.slice none 0 0, .slice none 0 0] 25)) := ⟨_, rfl⟩
  have X0 : Hid (Ext w W0) := by rw [hW0.out]; exact ((Ext.alloc w _).trans (Ext.alloc _ _)).trans (Ext.alloc _ _)
  have B0 : Hid (Blk W0 w.heap.size #[.slice A n c, .slice A' n' c'] 25) := by rw [hW0.out]; exact ((Blk.new rfl _ _).alloc _).alloc _
  have B1 : Hid (Blk W0 (w.heap.size + 1) #[.slice none 0 0, .slice none 0 0] 25) := by rw [hW0.out]; exact (Blk.new (by simp) _ _).alloc _
  have B2 : Hid (Blk W0 (w.heap.size + 1 + 1) #[.slice none 0 0, .slice none 0 0] 25) := by rw [hW0.out]; exact Blk.new (by simp) _ _
  have cB : ∀ i, (((w.alloc (.cells #[.slice A n c, .slice A' n' c'] 25)).alloc (.cells #[.slice none 0 0, .slice none 0 0] 25)).alloc (.cells #[.slice none 0 0, .slice none 0 0] 25)).cell? ⟨w.heap.size, i, none⟩ = #[Value.slice A n c, .slice A' n' c'][i]? := by rw [← hW0.out]; exact B0.out.cell
  go_enter Try.func35, Try.ntmps35
  go_wp2
  rw [← hW0.out]
  clear cB hW0
  go_loopw [14] (fun i wr => ∃ (k : Nat) (A1 : Option Addr) (c1 : Nat) (fp : List Nat), k ≤ n ∧ i = .int .i64 k ∧ Blk wr (w.heap.size + 1 + 1) #[.slice A1 k c1, .slice none 0 0] 25 ∧ LO kdL 36 wr A1 c1 ((d.1.map (cutJ j)).take k) fp ∧ (∀ i ∈ fp, w.heap.size + 1 + 1 < i) ∧ Blk wr w.heap.size #[.slice A n c, .slice A' n' c'] 25 ∧ Blk wr (w.heap.size + 1) #[.slice none 0 0, .slice none 0 0] 25 ∧ Ext w wr) (fun i _ => n - (intOf i).toNat)
  case atStart => exact ⟨0, none, 0, [], Nat.zero_le _, rfl, B2.out, LO.none_, by simp, B0.out, B1.out, X0.out⟩
  case round =>
    obtain ⟨k, A1, c1, fp, hk, rfl, hb2, hown, hfp, hb0, hb1, hx⟩ := hrel
    clear B0 B1 B2 X0
    have B0 := hide hb0
    have B1 := hide hb1
    have B2 := hide hb2
    have HO := hide hown
    have HF := hide hfp
    have HX := hide hx
    clear hb0 hb1 hb2 hown hfp hx
    by_cases hlt : k < n
    · obtain ⟨x, hxk⟩ : ∃ x, Hid (d.1[k]? = some x) := ⟨_, List.getElem?_eq_getElem (by rw [hn.out]; exact hlt)⟩
      have hx9 := HR1.out x (List.mem_of_getElem? hxk.out)
      obtain ⟨b, off, Ak, ck, rfl, hb, hck, hrk⟩ := H1.out.row HX.out (Nat.le_refl _) hxk.out
      have hz := hrk.1
      have hz2 := hrk.2.1
      have h0 := hrk.sl
      clear hrk
      obtain ⟨b', off', rfl, hb', hcz⟩ := h0.cells (by omega)
      clear hcz
      have SD : Hid (SlI wr w.heap.size (if ck = j + 1 then some ⟨b', off', none⟩ else some ⟨b', off' + (j + 1), none⟩) (x.length - (j + 1)) (x.drop (j + 1))) := SlI.cutFrom h0 (by omega) (fun h => by rw [if_neg (by omega)])
      have hq := s.l1Own_any (some ⟨b', off', none⟩) j ck w.heap.size (x.take j) wr.drew (h0.cutTo (by omega)) (by exact HX.out.size) (by omega)
      have HQ := hide hq
      clear hq h0
      have HK : Hid ((d.1.map (cutJ j)).take (k + 1) = (d.1.map (cutJ j)).take k ++ [cutJ j x]) := by
        obtain ⟨hk', e⟩ := List.getElem?_eq_some_iff.1 hxk.out
        show _ = _
        rw [List.take_succ_eq_append_getElem (by simpa using hk'), List.getElem_map, e]
      have HL : Hid (((d.1.map (cutJ j)).take k).length = k) := by show _ = _; rw [List.length_take, List.length_map, hn.out]; omega
      have LT := hide HO.out.lt
      obtain ⟨m, hm⟩ : ∃ m, Hid (x.length = m) := ⟨_, rfl⟩
      rw [hm.out] at hx9 hck hz SD
      have j0 : (0 : Int) ≤ (j : Int) + 1 := by omega
      have j1 : (j : Int) + 1 ≤ m := by omega
      have j2 : (j : Int) + 1 ≤ ck := by omega
      have j3 : (j : Int) ≤ ck := by omega
      have j5 : ((j : Int) + 1).toNat = j + 1 := by omega
      have j6 : IntKind.i64.wrap ((j : Int) + 1) = (j : Int) + 1 := IntWalk.i64_in _ (by omega)
      have b5 : (j + (m - (j + 1))) * 8 ≤ 140737488355328 := by omega
      have b6 : j + (m - (j + 1)) ≤ 4611686018427387904 := by omega
      have sx := HX.out.size
      have q2 := B2.out.cell
      have b1 : (k + 1) * 24 ≤ 140737488355328 := by omega
      have b2 : k + 1 ≤ 4611686018427387904 := by omega
      go_wp2
      go_region_law (first
        | (refine step_append_LO (K := kdL) (by rfl) (.tmp 19) (.tmp 29) (by rfl) elemN_row (by decide) HL.out.symm (by rfl) (by rfl) LO1.out KO1.out D1.out D2.out b1 b2 ?_; intro A3 c3 w3 fp3 hap; have HA := hide hap; have B2' := hide (B2a.out.tchF HA.out.tch (fun h => by have := HF.out _ h; omega)); have c3_ := B2'.out.cell; have f3_ := B2'.out.free; clear hap)
        | (refine step_append_sl (by rfl) (.tmp 23) (.tmp 27) (by rfl) elem_int (by rfl) (by rfl) (lo := wr.heap.size) OW.out SD1.out (oneCell_ints _) b5 b6 sz1 ?_; intro A4 c4 w4 hp4; have Y1 := hide (hp4.ext Y0.out OW.out.fromLo); have o1 : OwnI 3 w4 wr.heap.size A4 (j + (m - (j + 1))) c4 (cutJ j x) := own_conv hp4.own (Nat.le_refl _) rfl (by simp [cutJ]); have LO1 := hide ((HO.out.ext Y1.out).ext (Ext.alloc w4 (.cells #[.slice A4 (j + (m - (j + 1))) c4] 36))); have KO1 := hide (kdL.own_ext (own_row o1) (Ext.alloc w4 (.cells #[.slice A4 (j + (m - (j + 1))) c4] 36))); have FL := hide (OwnI.fpLo o1); have B2w := hide (B2.out.ext Y1.out); have B2a := hide (B2w.out.alloc (.cells #[.slice A4 (j + (m - (j + 1))) c4] 36)); have cw := B2w.out.cell; have ca := B2a.out.cell; have D1 : Hid (∀ i ∈ (A4.map (·.block)).toList, i ∉ fp) := (fun i hi hm => by have h8 : wr.heap.size ≤ i := FL.out i hi; have h9 := LT.out i hm; omega); have D2 := hide (row_src w4 (.slice A4 (j + (m - (j + 1))) c4) 36); have Y2 := hide (Y1.out.trans (Ext.alloc w4 (.cells #[.slice A4 (j + (m - (j + 1))) c4] 36))); clear o1 hp4)
        | (go_simp; go_at_call 46; refine HQ.out.mono ?_; rintro e w1 ⟨A2, c2, rfl, o1, x1⟩; have Y0 := hide ((Ext.drew wr).trans x1); have OW : Hid (OwnI 3 w1 wr.heap.size A2 j c2 (x.take j)) := o1; have sz1 : wr.heap.size ≤ w1.heap.size := Y0.out.size; have SD1 := hide (SD.out.ext Y0.out sx); have cw1 := (B2.out.ext Y0.out).cell; clear o1 x1))
      all_goals
        go_wp2
        go_roundw
        case rel =>
          have z1 := B2.out.lt
          have z2 := Y2.out.size
          have nf : ∀ g, g ≤ w.heap.size + 1 + 1 → g ∉ fp := fun g hg h => by have := HF.out g h; omega
          have nf3 : ∀ i ∈ fp3, w.heap.size + 1 + 1 < i := fun i hi => by
            rcases HA.out.sub i hi with h | h | h
            · exact HF.out i h
            · have h8 : wr.heap.size ≤ i := FL.out i h
              omega
            · rw [h]; omega
          exact ⟨k + 1, A3, c3, fp3, by omega, by go_num, B2'.out.set 0 _, by rw [HK.out]; exact HA.out.own.keep (fun i hi => Below.heap_setCell _ _ _ _ (by have := nf3 i hi; simp; omega)), nf3, (((B0.out.ext Y2.out).tchF HA.out.tch (nf _ (by omega))).far (by simp; omega) _), (((B1.out.ext Y2.out).tchF HA.out.tch (nf _ (by omega))).far (by simp) _), Below.setCell ((HX.out.trans Y2.out).tchF HA.out.tch (fun i hi => by have := HF.out i hi; omega)) (by simp <;> omega) _⟩
        case measure => simp [intOf]; omega
    · have ek : n = k := by omega
      subst ek
      replace HO : Hid (LO kdL 36 wr A1 c1 (d.1.map (cutJ j)) fp) := by have := HO.out; rwa [List.take_of_length_le (by rw [List.length_map, hn.out]; exact Nat.le_refl _)] at this
      obtain ⟨Af, cf, ff, B2f, HOf, HFf⟩ : ∃ Af cf ff, Hid (Blk wr (w.heap.size + 1 + 1) #[.slice Af n cf, .slice none 0 0] 25) ∧ Hid (LO kdL 36 wr Af cf (d.1.map (cutJ j)) ff) ∧ Hid (∀ i ∈ ff, w.heap.size + 1 + 1 < i) := ⟨A1, c1, fp, B2, HO, HF⟩
      clear HO HF B2 A1 c1 fp
      have B2 := B2f
      clear B2f
      have cB := B0.out.cell
      go_wp2
      clear cB
      go_loopw [36] (fun i wr => ∃ (k : Nat) (A1 : Option Addr) (c1 : Nat) (fp : List Nat), k ≤ n' ∧ i = .int .i64 k ∧ Blk wr (w.heap.size + 1 + 1) #[.slice Af n cf, .slice A1 k c1] 25 ∧ LO kdL 36 wr A1 c1 ((d.2.map (cutJ j)).take k) fp ∧ (∀ i ∈ fp, w.heap.size + 1 + 1 < i ∧ i ∉ ff) ∧ Blk wr w.heap.size #[.slice A n c, .slice A' n' c'] 25 ∧ Blk wr (w.heap.size + 1) #[.slice none 0 0, .slice none 0 0] 25 ∧ Ext w wr ∧ LO kdL 36 wr Af cf (d.1.map (cutJ j)) ff) (fun i _ => n' - (intOf i).toNat)
      case atStart => exact ⟨0, none, 0, [], Nat.zero_le _, rfl, B2.out, LO.none_, by simp, B0.out, B1.out, HX.out, HOf.out⟩
      case round =>
        obtain ⟨k, A1, c1, fp, hk, rfl, hb2, hown, hfp, hb0, hb1, hx, hmf⟩ := hrel
        clear B0 B1 B2 HX HOf
        have B0 := hide hb0
        have B1 := hide hb1
        have B2 := hide hb2
        have HO := hide hown
        have HF := hide hfp
        have HX := hide hx
        have HOf := hide hmf
        clear hmf
        clear hb0 hb1 hb2 hown hfp hx
        by_cases hlt : k < n'
        · obtain ⟨x, hxk⟩ : ∃ x, Hid (d.2[k]? = some x) := ⟨_, List.getElem?_eq_getElem (by rw [hn'.out]; exact hlt)⟩
          have hx9 := HR2.out x (List.mem_of_getElem? hxk.out)
          obtain ⟨b, off, Ak, ck, rfl, hb, hck, hrk⟩ := H2.out.row HX.out (Nat.le_refl _) hxk.out
          have hz := hrk.1
          have hz2 := hrk.2.1
          have h0 := hrk.sl
          clear hrk
          obtain ⟨b', off', rfl, hb', hcz⟩ := h0.cells (by omega)
          clear hcz
          have SD : Hid (SlI wr w.heap.size (if ck = j + 1 then some ⟨b', off', none⟩ else some ⟨b', off' + (j + 1), none⟩) (x.length - (j + 1)) (x.drop (j + 1))) := SlI.cutFrom h0 (by omega) (fun h => by rw [if_neg (by omega)])
          have hq := s.l1Own_any (some ⟨b', off', none⟩) j ck w.heap.size (x.take j) wr.drew (h0.cutTo (by omega)) (by exact HX.out.size) (by omega)
          have HQ := hide hq
          clear hq h0
          have HK : Hid ((d.2.map (cutJ j)).take (k + 1) = (d.2.map (cutJ j)).take k ++ [cutJ j x]) := by
            obtain ⟨hk', e⟩ := List.getElem?_eq_some_iff.1 hxk.out
            show _ = _
            rw [List.take_succ_eq_append_getElem (by simpa using hk'), List.getElem_map, e]
          have HL : Hid (((d.2.map (cutJ j)).take k).length = k) := by show _ = _; rw [List.length_take, List.length_map, hn'.out]; omega
          have LT := hide HO.out.lt
          obtain ⟨m, hm⟩ : ∃ m, Hid (x.length = m) := ⟨_, rfl⟩
          rw [hm.out] at hx9 hck hz SD
          have j0 : (0 : Int) ≤ (j : Int) + 1 := by omega
          have j1 : (j : Int) + 1 ≤ m := by omega
          have j2 : (j : Int) + 1 ≤ ck := by omega
          have j3 : (j : Int) ≤ ck := by omega
          have j5 : ((j : Int) + 1).toNat = j + 1 := by omega
          have j6 : IntKind.i64.wrap ((j : Int) + 1) = (j : Int) + 1 := IntWalk.i64_in _ (by omega)
          have b5 : (j + (m - (j + 1))) * 8 ≤ 140737488355328 := by omega
          have b6 : j + (m - (j + 1)) ≤ 4611686018427387904 := by omega
          have sx := HX.out.size
          have q2 := B2.out.cell
          have b1 : (k + 1) * 24 ≤ 140737488355328 := by omega
          have b2 : k + 1 ≤ 4611686018427387904 := by omega
          go_wp2
          go_region_law (first
            | (refine step_append_LO (K := kdL) (by rfl) (.tmp 41) (.tmp 51) (by rfl) elemN_row (by decide) HL.out.symm (by rfl) (by rfl) LO1.out KO1.out D1.out D2.out b1 b2 ?_; intro A3 c3 w3 fp3 hap; have HA := hide hap; have B2' := hide (B2a.out.tchF HA.out.tch (fun h => by have := HF.out _ h; omega)); have c3_ := B2'.out.cell; have f3_ := B2'.out.free; clear hap)
            | (refine step_append_sl (by rfl) (.tmp 45) (.tmp 49) (by rfl) elem_int (by rfl) (by rfl) (lo := wr.heap.size) OW.out SD1.out (oneCell_ints _) b5 b6 sz1 ?_; intro A4 c4 w4 hp4; have Y1 := hide (hp4.ext Y0.out OW.out.fromLo); have o1 : OwnI 3 w4 wr.heap.size A4 (j + (m - (j + 1))) c4 (cutJ j x) := own_conv hp4.own (Nat.le_refl _) rfl (by simp [cutJ]); have LO1 := hide ((HO.out.ext Y1.out).ext (Ext.alloc w4 (.cells #[.slice A4 (j + (m - (j + 1))) c4] 36))); have KO1 := hide (kdL.own_ext (own_row o1) (Ext.alloc w4 (.cells #[.slice A4 (j + (m - (j + 1))) c4] 36))); have FL := hide (OwnI.fpLo o1); have B2w := hide (B2.out.ext Y1.out); have B2a := hide (B2w.out.alloc (.cells #[.slice A4 (j + (m - (j + 1))) c4] 36)); have cw := B2w.out.cell; have ca := B2a.out.cell; have D1 : Hid (∀ i ∈ (A4.map (·.block)).toList, i ∉ fp) := (fun i hi hm => by have h8 : wr.heap.size ≤ i := FL.out i hi; have h9 := LT.out i hm; omega); have D2 := hide (row_src w4 (.slice A4 (j + (m - (j + 1))) c4) 36); have Y2 := hide (Y1.out.trans (Ext.alloc w4 (.cells #[.slice A4 (j + (m - (j + 1))) c4] 36))); clear o1 hp4)
            | (go_simp; go_at_call 46; refine HQ.out.mono ?_; rintro e w1 ⟨A2, c2, rfl, o1, x1⟩; have Y0 := hide ((Ext.drew wr).trans x1); have OW : Hid (OwnI 3 w1 wr.heap.size A2 j c2 (x.take j)) := o1; have sz1 : wr.heap.size ≤ w1.heap.size := Y0.out.size; have SD1 := hide (SD.out.ext Y0.out sx); have cw1 := (B2.out.ext Y0.out).cell; clear o1 x1))
          all_goals
            go_wp2
            go_roundw
            case rel =>
              have z1 := B2.out.lt
              have z2 := Y2.out.size
              have nf : ∀ g, g ≤ w.heap.size + 1 + 1 → g ∉ fp := fun g hg h => by have := HF.out g h; omega
              have nf3 : ∀ i ∈ fp3, w.heap.size + 1 + 1 < i ∧ i ∉ ff := fun i hi => by
                rcases HA.out.sub i hi with h | h | h
                · exact HF.out i h
                · have h8 : wr.heap.size ≤ i := FL.out i h
                  exact ⟨by omega, fun hm => by have := HOf.out.lt i hm; omega⟩
                · rw [h]; exact ⟨by omega, fun hm => by have := HOf.out.lt _ hm; omega⟩
              exact ⟨k + 1, A3, c3, fp3, by omega, by go_num, B2'.out.set 1 _, by rw [HK.out]; exact HA.out.own.keep (fun i hi => Below.heap_setCell _ _ _ _ (by have := nf3 i hi; simp; omega)), nf3, (((B0.out.ext Y2.out).tchF HA.out.tch (nf _ (by omega))).far (by simp; omega) _), (((B1.out.ext Y2.out).tchF HA.out.tch (nf _ (by omega))).far (by simp) _), Below.setCell ((HX.out.trans Y2.out).tchF HA.out.tch (fun i hi => by have := HF.out i hi; omega)) (by simp <;> omega) _, ((HOf.out.ext Y2.out).keep (fun i hi => HA.out.tch.block i (by have := HOf.out.lt i hi; omega) (fun h => (HF.out i h).2 hi))).keep (fun i hi => Below.heap_setCell _ _ _ _ (by have := HFf.out i hi; simp; omega))⟩
            case measure => simp [intOf]; omega
        · have ek : n' = k := by omega
          subst ek
          replace HO : Hid (LO kdL 36 wr A1 c1 (d.2.map (cutJ j)) fp) := by have := HO.out; rwa [List.take_of_length_le (by rw [List.length_map, hn'.out]; exact Nat.le_refl _)] at this
          have c2_ := B2.out.cell; have c1_ := B1.out.cell; have f1_ := B1.out.free
          go_wp2
          refine bodyPost_ret (v := .agg #[.slice Af n cf, .slice A1 n' c1]) (by simp [results, Try.results35, go_sem, c1_]) rfl ?_
          have hk : ∀ i, w.heap.size + 1 + 1 < i → ((wr.setCell ⟨w.heap.size + 1, 0, none⟩ (.slice Af n cf)).setCell ⟨w.heap.size + 1, 1, none⟩ (.slice A1 n' c1)).heap[i]? = wr.heap[i]? := by
            intro i hi
            rw [Below.heap_setCell _ _ _ _ (by simp; omega), Below.heap_setCell _ _ _ _ (by simp; omega)]
          refine ⟨_, rfl, kM.mk (d := (d.1.map (cutJ j), d.2.map (cutJ j))) (HOf.out.keep (fun i hi => hk i (HFf.out i hi))) (HO.out.keep (fun i hi => hk i (HF.out i hi).1)) (by show n = (d.1.map (cutJ j)).length; rw [List.length_map, hn.out]) (by show n' = (d.2.map (cutJ j)).length; rw [List.length_map, hn'.out]) (fun i hi => ?_) (fun i hi => ?_) (fun i hi hi' => (HF.out i hi').2 hi), Below.setCell (Below.setCell HX.out (by simp) _) (by simp) _⟩
          · have := HFf.out i hi; have := HOf.out.lt i hi; simp; omega
          · have := HF.out i hi; have := HO.out.lt i hi; simp; omega

set_option maxRecDepth 100000 in
set_option maxHeartbeats 4000000 in
theorem s.DropJudge_law (w : World) (v : Value) (d : MD) (y : Int) (h : kM.rd w v d) (hok : kM.ok d) (hy : InR y) :
    Calls Try.prog 15 #[v, .int .i64 y] w fun e w' => ∃ v0, e = .returned (.tuple #[v0, .bool (dropJudgeF d y).2]) ∧ kM.fr w' w.heap.size w'.heap.size v0 (dropJudgeF d y).1 ∧ kM.ok (dropJudgeF d y).1 ∧ Ext w w' := by
  obtain ⟨A, c, A', c', rfl, h1, h2⟩ := kM.lr h
  have HR := hide h
  clear h h1 h2
  obtain ⟨n, hn⟩ : ∃ n, Hid (d.1.length = n) := ⟨_, rfl⟩
  obtain ⟨n', hn'⟩ : ∃ n', Hid (d.2.length = n') := ⟨_, rfl⟩
  rw [hn.out, hn'.out] at HR ⊢
  obtain ⟨W0, hW0⟩ : ∃ W0, Hid (W0 = (w.alloc (.cells #[.slice A n c, .slice A' n' c'] 25)).alloc (.cells #[.slice none 0 0, .slice none 0 0] 25)) := ⟨_, rfl⟩
  have X : Hid (Ext w W0) := by rw [hW0.out]; exact (Ext.alloc w _).trans (Ext.alloc _ _)
  have B0 : Hid (Blk W0 w.heap.size #[.slice A n c, .slice A' n' c'] 25) := by rw [hW0.out]; exact (Blk.new rfl _ _).alloc _
  have B1 : Hid (Blk W0 (w.heap.size + 1) #[.slice none 0 0, .slice none 0 0] 25) := by rw [hW0.out]; exact Blk.new (by simp) _ _
  obtain ⟨F, hF⟩ : ∃ F, Hid (dropJudgeF d y = F) := ⟨_, rfl⟩
  rw [hF.out]
  go_enter Try.func15, Try.ntmps15
  go_wp2_with fail
  rw [← hW0.out]
  clear hW0
  refine (s.mkHas_m _ _ d y (kM.rd_ext HR.out X.out) hok).mono ?_
  rintro e w1 ⟨rfl, x1⟩
  replace X := hide (X.out.trans x1)
  replace B0 := hide (B0.out.ext x1)
  replace B1 := hide (B1.out.ext x1)
  clear x1
  have c0_ := B0.out.cell; have c1_ := B1.out.cell; have f1_ := B1.out.free
  cases hm : hasJudge d y
  · have HM := hide hm
    clear hm
    go_wp2
    refine bodyPost_ret (v := .tuple #[noMarks, .bool false]) (by simp [results, Try.results15, go_sem, c1_, noMarks]) rfl ?_
    have hf : F = (([], []), false) := by rw [← hF.out]; simp [dropJudgeF, HM.out]
    subst hf
    exact ⟨noMarks, rfl, kM.fr_nil _ _ _, kM.ok_nil, Below.setCell (Below.setCell X.out (by simp) _) (by simp) _⟩
  · obtain ⟨hmk, j, rfl, hj⟩ := hasJudge_ok hm
    have HRW := hide (rows_ok hmk hj)
    have HF : Hid (F = ifMarks (d.1.map (cutJ j), d.2.map (cutJ j))) := by show _ = _; rw [← hF.out]; simp [dropJudgeF, hm]
    have OKS := hide (dropJ_ok j hok)
    clear hm hmk hF hj
    go_wp2_with fail
    refine (s.mkWithout_any _ _ d j (kM.rd_ext HR.out X.out) hok HRW.out).mono ?_
    rintro e w2 ⟨v2, rfl, o2, x2⟩
    obtain ⟨A5, n5, c5, A6, n6, c6, rfl⟩ := kM.shape (kM.fr_rd o2)
    have z1 : w.heap.size + 1 < w1.heap.size := B1.out.lt
    have FR := hide o2
    replace X := hide (X.out.trans x2)
    replace B1 := hide (B1.out.ext x2)
    clear o2 x2 B0 c0_ c1_ f1_
    go_wp2_with fail
    refine (s.mkIf_any w2 _ _ (kM.fr_rd FR.out) OKS.out).mono ?_
    rintro e w5 ⟨v5, rfl, hv1, hv2, x5⟩
    replace FR := hide (kM.fr_ext FR.out x5)
    have z6 := x5.size
    replace X := hide (X.out.trans x5)
    replace B1 := hide (B1.out.ext x5)
    have HV1 := hide hv1
    have HV2 := hide hv2
    clear x5 hv1 hv2 HR
    have c1_ := B1.out.cell; have f1_ := B1.out.free
    cases hb : marksB (d.1.map (cutJ j), d.2.map (cutJ j))
    · have e5 := HV2.out hb
      have hf : Hid (F = (([], []), false)) := by show _ = _; rw [HF.out]; simp [ifMarks, hb]
      clear hb
      subst e5
      clear HV1 HV2
      unfold noMarks
      go_wp2
      refine bodyPost_ret (v := .tuple #[noMarks, .bool false]) (by simp [results, Try.results15, go_sem, c1_, noMarks]) rfl ?_
      rw [hf.out]
      exact ⟨noMarks, rfl, kM.fr_nil _ _ _, kM.ok_nil, Below.setCell (Below.setCell X.out (by simp) _) (by simp) _⟩
    · have e5 := HV1.out hb
      have hf : Hid (F = ((d.1.map (cutJ j), d.2.map (cutJ j)), true)) := by show _ = _; rw [HF.out]; simp [ifMarks, hb]
      clear hb
      subst e5
      clear HV1 HV2
      go_wp2
      refine bodyPost_ret (v := .tuple #[.agg #[.slice A5 n5 c5, .slice A6 n6 c6], .bool true]) (by simp [results, Try.results15, go_sem, c1_]) rfl ?_
      rw [hf.out]
      refine ⟨_, rfl, kM.fr_mono (kM.fr_far (kM.fr_far FR.out _ (by simp; omega) _) _ (by simp; omega) _) (by omega) ?_, OKS.out, Below.setCell (Below.setCell X.out (by simp) _) (by simp) _⟩
      simp
      omega
end Go.Proofs.Ytifdpmpconjhmaa
