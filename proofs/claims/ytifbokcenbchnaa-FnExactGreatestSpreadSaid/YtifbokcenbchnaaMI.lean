/- The greatest spread of a component. -/
import Derived.Test.YtifbokcenbchnaaMF
import Derived.Test.YtifbokcenbchnaaTA
namespace Go.Proofs.Ytifbokcenbchnaa
open Go.RowKit Go.Sort
set_option linter.unusedVariables false

def spF (rows : List (List Int)) : Nat → Int × Int
  | 0 => (0, -1)
  | k + 1 => if (spF rows k).2 < maxL (rows.getD k []) - minL (rows.getD k []) then ((k : Int), maxL (rows.getD k []) - minL (rows.getD k [])) else spF rows k
def greatestSpreadF (d : MD) : Int × Int × Bool := if marksB d then ((spF d.2 d.2.length).1, (spF d.2 d.2.length).2, true) else (0, 0, false)
theorem spF_yes {rows : List (List Int)} {k : Nat} {x : List Int} {b m mx mn : Int} (hx : rows[k]? = some x) (h : spF rows k = (b, m)) (h1 : maxL x = mx) (h2 : minL x = mn) (hlt : m < mx - mn) : spF rows (k + 1) = ((k : Int), mx - mn) := by
  simp only [spF, h, List.getD_eq_getElem?_getD, hx, Option.getD_some, h1, h2, if_pos hlt]
theorem spF_no {rows : List (List Int)} {k : Nat} {x : List Int} {b m mx mn : Int} (hx : rows[k]? = some x) (h : spF rows k = (b, m)) (h1 : maxL x = mx) (h2 : minL x = mn) (hlt : ¬ m < mx - mn) : spF rows (k + 1) = (b, m) := by
  simp only [spF, h, List.getD_eq_getElem?_getD, hx, Option.getD_some, h1, h2, if_neg hlt]

set_option maxRecDepth 100000 in
set_option maxHeartbeats 2000000 in
theorem i.GreatestSpread_law (w : World) (v : Value) (d : MD) (h : kM.rd w v d) (hok : kM.ok d) :
    Calls Try.prog 33 #[v] w fun e w' => e = .returned (.tuple #[.int .i64 (greatestSpreadF d).1, .int .i64 (greatestSpreadF d).2.1, .bool (greatestSpreadF d).2.2]) ∧ Ext w w' := by
  obtain ⟨A, c, A', c', rfl, h1, h2⟩ := kM.lr h
  have hok : kdM.wt d ≤ 1048576 := hok
  have H1 := hide h1
  have H2 := hide h2
  have a1 := h1.1; have a2 := h1.2.1; have a3 := h2.1; have a4 := h2.2.1
  clear h h1 h2
  obtain ⟨n, hn⟩ : ∃ n, Hid (d.1.length = n) := ⟨_, rfl⟩
  obtain ⟨n', hn'⟩ : ∃ n', Hid (d.2.length = n') := ⟨_, rfl⟩
  rw [hn.out, hn'.out]
  rw [hn.out] at a1
  rw [hn'.out] at a3
  obtain ⟨W0, hW0⟩ : ∃ W0, Hid (W0 = w.alloc (.cells #[.slice A n c, .slice A' n' c'] 27)) := ⟨_, rfl⟩
  have X0 : Hid (Ext w W0) := by rw [hW0.out]; exact Ext.alloc w _
  have B0 : Hid (Blk W0 w.heap.size #[.slice A n c, .slice A' n' c'] 27) := by rw [hW0.out]; exact Blk.new rfl _ _
  obtain ⟨F, hF⟩ : ∃ F, Hid (greatestSpreadF d = F) := ⟨_, rfl⟩
  rw [hF.out]
  go_enter Try.func33, Try.ntmps33
  go_wp2_with fail
  rw [← hW0.out]
  have hc := i.isMarks_any A A' c c' w.heap.size d W0 (H1.out.ext X0.out (Nat.le_refl _)) (H2.out.ext X0.out (Nat.le_refl _)) X0.out.size hok
  rw [hn.out, hn'.out] at hc
  refine hc.mono ?_
  rintro e w1 ⟨rfl, hx⟩
  have X1 := hide (X0.out.trans hx)
  replace B0 := hide (B0.out.ext hx)
  clear hx hc hW0
  cases hm : marksB d
  · have HM := hide hm
    clear hm
    go_wp2
    go_ret3
    have hf : F = (0, 0, false) := by rw [← hF.out]; simp [greatestSpreadF, HM.out]
    subst hf
    exact ⟨rfl, X1.out⟩
  · have r1 := marksB_ok hm
    have l2 : n' ≤ 14 := by have := r1.2.1; rw [hn'.out] at this; omega
    have HM := hide hm
    have HG : Hid (∀ r ∈ d.2, 3 ≤ r.length ∧ r.length ≤ 9 ∧ ∀ z ∈ r, 0 ≤ z ∧ z ≤ 1000) := fun r hr => ⟨by have := (r1.2.2.2.2.2 r hr).1; omega, by have := (r1.2.2.2.2.2 r hr).1; omega, fun z hz => by have := (r1.2.2.2.2.2 r hr).2 z hz; omega⟩
    have hf : Hid (F = ((spF d.2 n').1, (spF d.2 n').2, true)) := by show _ = _; rw [← hF.out, ← hn'.out]; simp [greatestSpreadF, HM.out]
    clear hm r1 hF
    have cB := B0.out.cell
    go_wp2
    clear cB
    go_loopw [5, 6, 16] (fun ob om i wr => ∃ (k : Nat) (b m : Int), k ≤ n' ∧ i = .int .i64 k ∧ ob = .int .i64 b ∧ om = .int .i64 m ∧ spF d.2 k = (b, m) ∧ Ext w wr) (fun _ _ i _ => n' - (intOf i).toNat)
    case atStart => exact ⟨0, 0, -1, Nat.zero_le _, rfl, rfl, rfl, rfl, X1.out⟩
    case round =>
      obtain ⟨k, b, m, hk, rfl, rfl, rfl, hs, hx⟩ := hrel
      have HS := hide hs
      have HX := hide hx
      clear hs hx
      by_cases hlt : k < n'
      · obtain ⟨x, hxk⟩ : ∃ x, Hid (d.2[k]? = some x) := ⟨_, List.getElem?_eq_getElem (by rw [hn'.out]; exact hlt)⟩
        obtain ⟨hx3, hx9, hxz⟩ := HG.out x (List.mem_of_getElem? hxk.out)
        obtain ⟨bb, off, Ak, ck, rfl, hb, hck0, hrk⟩ := H2.out.row (Ext.refl w) (Nat.le_refl _) hxk.out
        have hck : wr.cell? ⟨bb, off + k, none⟩ = some (.slice Ak x.length ck) := by rw [HX.out.cell hb]; exact hck0
        have HRK := hide (hrk.ext HX.out (Nat.le_refl _)).sl
        have hz := hrk.1
        have hz' := hrk.2.1
        have hne : x ≠ [] := fun h => by rw [h] at hx3; simp at hx3
        have hmx := hxz _ (maxL_spec x hne).1
        have hmn := hxz _ (minL_spec x hne).1
        obtain ⟨mx, hMX⟩ : ∃ mx, Hid (maxL x = mx) := ⟨_, rfl⟩
        obtain ⟨mn, hMN⟩ : ∃ mn, Hid (minL x = mn) := ⟨_, rfl⟩
        rw [hMX.out] at hmx
        rw [hMN.out] at hmn
        obtain ⟨mm, hmm⟩ : ∃ mm, Hid (x.length = mm) := ⟨_, rfl⟩
        have hq1 := slicesMax_any Ak x.length ck w.heap.size x wr HRK.out (by omega) (by omega)
        have hq2 := slicesMin_any Ak x.length ck w.heap.size x wr HRK.out (by omega) (by omega)
        rw [hMX.out, hmm.out] at hq1
        rw [hMN.out, hmm.out] at hq2
        have HQ1 := hide hq1
        have HQ2 := hide hq2
        clear hq1 hq2
        clear hrk hck0 hxz hne
        rw [hmm.out] at hx3 hx9 hck hz
        by_cases hcmp : m < mx - mn
        · have HN := hide (spF_yes hxk.out HS.out hMX.out hMN.out hcmp)
          go_wp2_with (first
            | (go_at_call 66; refine HQ1.out.mono ?_; rintro e w3 ⟨rfl, rfl⟩)
            | (go_at_call 67; refine HQ2.out.mono ?_; rintro e w3 ⟨rfl, rfl⟩))
          go_roundw
          case rel => exact ⟨k + 1, k, mx - mn, by omega, by go_num, rfl, rfl, HN.out, HX.out⟩
          case measure => simp [intOf]; omega
        · have HN := hide (spF_no hxk.out HS.out hMX.out hMN.out hcmp)
          go_wp2_with (first
            | (go_at_call 66; refine HQ1.out.mono ?_; rintro e w3 ⟨rfl, rfl⟩)
            | (go_at_call 67; refine HQ2.out.mono ?_; rintro e w3 ⟨rfl, rfl⟩))
          go_roundw
          case rel => exact ⟨k + 1, b, m, by omega, by go_num, rfl, rfl, HN.out, HX.out⟩
          case measure => simp [intOf]; omega
      · have ek : k = n' := by omega
        subst ek
        go_wp2
        go_ret3
        rw [hf.out, HS.out]
        exact ⟨rfl, HX.out⟩

set_option maxRecDepth 100000 in
set_option maxHeartbeats 2000000 in
theorem s.GreatestSpread_law (w : World) (v : Value) (d : MD) (h : kM.rd w v d) (hok : kM.ok d) :
    Calls Try.prog 32 #[v] w fun e w' => e = .returned (.tuple #[.int .i64 (greatestSpreadF d).1, .int .i64 (greatestSpreadF d).2.1, .bool (greatestSpreadF d).2.2]) ∧ Ext w w' := by
  obtain ⟨A, c, A', c', rfl, h1, h2⟩ := kM.lr h
  have hok : kdM.wt d ≤ 1048576 := hok
  have H1 := hide h1
  have H2 := hide h2
  have a1 := h1.1; have a2 := h1.2.1; have a3 := h2.1; have a4 := h2.2.1
  clear h h1 h2
  obtain ⟨n, hn⟩ : ∃ n, Hid (d.1.length = n) := ⟨_, rfl⟩
  obtain ⟨n', hn'⟩ : ∃ n', Hid (d.2.length = n') := ⟨_, rfl⟩
  rw [hn.out, hn'.out]
  rw [hn.out] at a1
  rw [hn'.out] at a3
  obtain ⟨W0, hW0⟩ : ∃ W0, Hid (W0 = w.alloc (.cells #[.slice A n c, .slice A' n' c'] 27)) := ⟨_, rfl⟩
  have X0 : Hid (Ext w W0) := by rw [hW0.out]; exact Ext.alloc w _
  have B0 : Hid (Blk W0 w.heap.size #[.slice A n c, .slice A' n' c'] 27) := by rw [hW0.out]; exact Blk.new rfl _ _
  obtain ⟨F, hF⟩ : ∃ F, Hid (greatestSpreadF d = F) := ⟨_, rfl⟩
  rw [hF.out]
  go_enter Try.func32, Try.ntmps32
  go_wp2_with fail
  rw [← hW0.out]
  have hc := s.mkAll_any A A' c c' w.heap.size d W0 (H1.out.ext X0.out (Nat.le_refl _)) (H2.out.ext X0.out (Nat.le_refl _)) X0.out.size hok
  rw [hn.out, hn'.out] at hc
  refine hc.mono ?_
  rintro e w1 ⟨rfl, hx⟩
  have X1 := hide (X0.out.trans hx)
  replace B0 := hide (B0.out.ext hx)
  clear hx hc hW0
  cases hm : marksB d
  · have HM := hide hm
    clear hm
    go_wp2
    go_ret3
    have hf : F = (0, 0, false) := by rw [← hF.out]; simp [greatestSpreadF, HM.out]
    subst hf
    exact ⟨rfl, X1.out⟩
  · have r1 := marksB_ok hm
    have l2 : n' ≤ 14 := by have := r1.2.1; rw [hn'.out] at this; omega
    have HM := hide hm
    have HG : Hid (∀ r ∈ d.2, 3 ≤ r.length ∧ r.length ≤ 9 ∧ ∀ z ∈ r, 0 ≤ z ∧ z ≤ 1000) := fun r hr => ⟨by have := (r1.2.2.2.2.2 r hr).1; omega, by have := (r1.2.2.2.2.2 r hr).1; omega, fun z hz => by have := (r1.2.2.2.2.2 r hr).2 z hz; omega⟩
    have hf : Hid (F = ((spF d.2 n').1, (spF d.2 n').2, true)) := by show _ = _; rw [← hF.out, ← hn'.out]; simp [greatestSpreadF, HM.out]
    clear hm r1 hF
    have cB := B0.out.cell
    go_wp2
    clear cB
    go_loopw [5, 6, 17] (fun ob om i wr => ∃ (k : Nat) (b m : Int), k ≤ n' ∧ i = .int .i64 k ∧ ob = .int .i64 b ∧ om = .int .i64 m ∧ spF d.2 k = (b, m) ∧ Ext w wr) (fun _ _ i _ => n' - (intOf i).toNat)
    case atStart => exact ⟨0, 0, -1, Nat.zero_le _, rfl, rfl, rfl, rfl, X1.out⟩
    case round =>
      obtain ⟨k, b, m, hk, rfl, rfl, rfl, hs, hx⟩ := hrel
      have HS := hide hs
      have HX := hide hx
      clear hs hx
      by_cases hlt : k < n'
      · obtain ⟨x, hxk⟩ : ∃ x, Hid (d.2[k]? = some x) := ⟨_, List.getElem?_eq_getElem (by rw [hn'.out]; exact hlt)⟩
        obtain ⟨hx3, hx9, hxz⟩ := HG.out x (List.mem_of_getElem? hxk.out)
        obtain ⟨bb, off, Ak, ck, rfl, hb, hck0, hrk⟩ := H2.out.row (Ext.refl w) (Nat.le_refl _) hxk.out
        have hck : wr.cell? ⟨bb, off + k, none⟩ = some (.slice Ak x.length ck) := by rw [HX.out.cell hb]; exact hck0
        have HRK := hide (hrk.ext HX.out (Nat.le_refl _)).sl
        have hz := hrk.1
        have hz' := hrk.2.1
        have hne : x ≠ [] := fun h => by rw [h] at hx3; simp at hx3
        have hmx := hxz _ (maxL_spec x hne).1
        have hmn := hxz _ (minL_spec x hne).1
        obtain ⟨mx, hMX⟩ : ∃ mx, Hid (maxL x = mx) := ⟨_, rfl⟩
        obtain ⟨mn, hMN⟩ : ∃ mn, Hid (minL x = mn) := ⟨_, rfl⟩
        rw [hMX.out] at hmx
        rw [hMN.out] at hmn
        obtain ⟨mm, hmm⟩ : ∃ mm, Hid (x.length = mm) := ⟨_, rfl⟩
        have hq1 := s.poSorted_any Ak x.length ck w.heap.size x wr HRK.out HX.out.size (by omega)
        have hs0 := sortD_head x hne
        have hs1 := sortD_last x hne
        rw [hMX.out] at hs0
        rw [hMN.out, hmm.out] at hs1
        rw [hmm.out] at hq1
        have HQ1 := hide hq1
        have HS0 := hide hs0
        have HS1 := hide hs1
        clear hq1 hs0 hs1
        clear hrk hck0 hxz hne
        rw [hmm.out] at hx3 hx9 hck hz
        by_cases hcmp : m < mx - mn
        · have HN := hide (spF_yes hxk.out HS.out hMX.out hMN.out hcmp)
          go_wp2_with (go_at_call 65; refine HQ1.out.mono ?_; rintro e w3 ⟨A3, c3, rfl, hown, hx2⟩; obtain ⟨g3, rfl, _, _, _⟩ := hown.pos (by omega); have e0 := hown.cell 0 (by omega); have e1 := hown.cell (mm - 1) (by omega); rw [HS0.out] at e0; rw [HS1.out] at e1; have hq := hown.capn; have hq' := hown.capm; clear hown)
          have k1 : IntKind.i64.wrap ((mm : Int) - 1) = (mm : Int) - 1 := IntWalk.i64_in _ (by omega)
          have k2 : ((mm : Int) - 1).toNat = mm - 1 := by omega
          have k3 : IntKind.i64.wrap (mx - mn) = mx - mn := IntWalk.i64_in _ (by omega)
          go_quiet (fail)
          go_wp2
          go_roundw
          case rel => exact ⟨k + 1, k, mx - mn, by omega, by go_num, rfl, rfl, HN.out, HX.out.trans (hx2.trans (Ext.drewN _ _))⟩
          case measure => simp [intOf]; omega
        · have HN := hide (spF_no hxk.out HS.out hMX.out hMN.out hcmp)
          go_wp2_with (go_at_call 65; refine HQ1.out.mono ?_; rintro e w3 ⟨A3, c3, rfl, hown, hx2⟩; obtain ⟨g3, rfl, _, _, _⟩ := hown.pos (by omega); have e0 := hown.cell 0 (by omega); have e1 := hown.cell (mm - 1) (by omega); rw [HS0.out] at e0; rw [HS1.out] at e1; have hq := hown.capn; have hq' := hown.capm; clear hown)
          have k1 : IntKind.i64.wrap ((mm : Int) - 1) = (mm : Int) - 1 := IntWalk.i64_in _ (by omega)
          have k2 : ((mm : Int) - 1).toNat = mm - 1 := by omega
          have k3 : IntKind.i64.wrap (mx - mn) = mx - mn := IntWalk.i64_in _ (by omega)
          go_quiet (fail)
          go_wp2
          go_roundw
          case rel => exact ⟨k + 1, b, m, by omega, by go_num, rfl, rfl, HN.out, HX.out.trans (hx2.trans (Ext.drewN _ _))⟩
          case measure => simp [intOf]; omega
      · have ek : k = n' := by omega
        subst ek
        go_wp2
        go_ret3
        rw [hf.out, HS.out]
        exact ⟨rfl, HX.out⟩
end Go.Proofs.Ytifbokcenbchnaa
