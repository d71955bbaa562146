/- IsFinal: the laws. -/
import Derived.Test.YtigfhllnfgfdoaaOF
namespace Go.Proofs.Ytigfhllnfgfdoaa
open Go.RowKit Go.Sort
set_option linter.unusedVariables false

set_option maxRecDepth 100000 in
set_option maxHeartbeats 4000000 in
theorem i.IsFinal_law (w : World) (v : Value) (d : ShD) (h : kSh.rd w v d) (hok : kSh.ok d) :
    Calls Try.prog 31 #[v] w fun e w' => e = .returned (.tuple #[.bool (finalF d).1, .bool (finalF d).2]) ∧ Ext w w' := by
  obtain ⟨A, c, A', c', D, e, rfl, h1, h2, h3⟩ := kSh.lr h
  have hok' : kdSh.wt d ≤ 1048576 := hok
  rw [kdSh.wt_eq] at hok'
  have hw1 : wtL kdItem d.1 ≤ 1048576 := by have : kdItS.wt d.1 = wtL kdItem d.1 := rfl; omega
  have k1 := wtL_len kdItem d.1
  have a1 := h1.1; have a2 := h1.2.1
  have HR := hide h
  have H1 := hide h1
  have HW1 := hide hw1
  have hn0 : d.1.length ≤ 1048576 := by omega
  clear h h1 h2 h3 hok' hw1 k1
  obtain ⟨n, hn⟩ : ∃ n, Hid (d.1.length = n) := ⟨_, rfl⟩
  obtain ⟨n', hn'⟩ : ∃ n', Hid (d.2.1.length = n') := ⟨_, rfl⟩
  obtain ⟨m', hm'⟩ : ∃ n', Hid (d.2.2.length = n') := ⟨_, rfl⟩
  rw [hn.out] at a1 hn0
  rw [hn.out, hn'.out, hm'.out] at HR ⊢
  obtain ⟨W0, hW0⟩ : ∃ W0, Hid (W0 = w.alloc (.cells #[.slice A n c, .slice A' n' c', .slice D m' e] 32)) := ⟨_, rfl⟩
  have X : Hid (Ext w W0) := by rw [hW0.out]; exact Ext.alloc w _
  have B0 : Hid (Blk W0 w.heap.size #[.slice A n c, .slice A' n' c', .slice D m' e] 32) := by rw [hW0.out]; exact Blk.new rfl _ _
  obtain ⟨F, hF⟩ : ∃ F, Hid (finalF d = F) := ⟨_, rfl⟩
  rw [hF.out]
  go_enter Try.func31, Try.ntmps31
  go_wp2_with fail
  rw [← hW0.out]
  clear hW0
  refine (i.IsSheet_m _ _ d (kSh.rd_ext HR.out X.out) hok).mono ?_
  rintro e1 w1 ⟨rfl, x1⟩
  replace X := hide (X.out.trans x1)
  replace B0 := hide (B0.out.ext x1)
  clear x1
  have cB := B0.out.cell
  cases hs : sheetB d
  · have HF : Hid (F = (false, false)) := by show _ = _; rw [← hF.out]; simp [finalF, hs]
    clear hs
    go_wp2
    go_ret2
    rw [HF.out]
    exact ⟨rfl, X.out⟩
  have HS := hide hs
  have HF : Hid (F = (((pairs (missP d) d.1).length : Int) == 0, true)) := by show _ = _; rw [← hF.out]; simp [finalF, hs]
  have hit : itemsB d.1 = true := by simp only [sheetB, cleanB, Bool.and_eq_true] at hs; exact hs.1.1.1.1.1
  have HIT := hide hit
  have hv3 := sheetB_votes hs
  clear hs hit hF
  have hmf : ∀ (fn : Fn) (first cap : Array Value) (w : World), (Instr.makeFunc fn first cap).run Try.prog w = .ok (.func fn first cap) w := fun _ _ _ _ => rfl
  have NWH := namesFinal (.pointer (some ⟨w.heap.size, 0, none⟩)) undef (missP d) w1 A c w.heap.size d.1 (H1.out.ext X.out (Nat.le_refl _)) X.out.size HIT.out
    (fun w' ix kx x' hi hk => final1_any w' w.heap.size d ix kx A A' D n c n' c' m' e (B0.out.ext x') (kSh.rd_ext HR.out (X.out.trans x')) hok HS.out hi hk)
  rw [hn.out] at NWH
  have NH := hide NWH
  clear NWH hv3
  go_wp2_with fail
  refine NH.out.mono ?_
  rintro e1 w2 ⟨A9, c9, fp, rfl, hl, hf, x2⟩
  replace X := hide (X.out.trans x2)
  have hcap := hl.cap
  clear hl hf x2 cB
  generalize (pairs (missP d) d.1).length = L at *
  go_wp2
  go_ret2
  rw [HF.out]
  exact ⟨rfl, X.out⟩

set_option maxRecDepth 100000 in
set_option maxHeartbeats 4000000 in
theorem s.IsFinal_law (w : World) (v : Value) (d : ShD) (h : kSh.rd w v d) (hok : kSh.ok d) :
    Calls Try.prog 30 #[v] w fun e w' => e = .returned (.tuple #[.bool (finalF d).1, .bool (finalF d).2]) ∧ Ext w w' := by
  obtain ⟨A, c, A', c', D, e, rfl, h1, h2, h3⟩ := kSh.lr h
  have hok' : kdSh.wt d ≤ 1048576 := hok
  rw [kdSh.wt_eq] at hok'
  have hw1 : wtL kdItem d.1 ≤ 1048576 := by have : kdItS.wt d.1 = wtL kdItem d.1 := rfl; omega
  have k1 := wtL_len kdItem d.1
  have a1 := h1.1; have a2 := h1.2.1
  have HR := hide h
  have H1 := hide h1
  have HW1 := hide hw1
  have hn0 : d.1.length ≤ 1048576 := by omega
  clear h h1 h2 h3 hok' hw1 k1
  obtain ⟨n, hn⟩ : ∃ n, Hid (d.1.length = n) := ⟨_, rfl⟩
  obtain ⟨n', hn'⟩ : ∃ n', Hid (d.2.1.length = n') := ⟨_, rfl⟩
  obtain ⟨m', hm'⟩ : ∃ n', Hid (d.2.2.length = n') := ⟨_, rfl⟩
  rw [hn.out] at a1 hn0
  rw [hn.out, hn'.out, hm'.out] at HR ⊢
  obtain ⟨W0, hW0⟩ : ∃ W0, Hid (W0 = w.alloc (.cells #[.slice A n c, .slice A' n' c', .slice D m' e] 32)) := ⟨_, rfl⟩
  have X : Hid (Ext w W0) := by rw [hW0.out]; exact Ext.alloc w _
  have B0 : Hid (Blk W0 w.heap.size #[.slice A n c, .slice A' n' c', .slice D m' e] 32) := by rw [hW0.out]; exact Blk.new rfl _ _
  obtain ⟨F, hF⟩ : ∃ F, Hid (finalF d = F) := ⟨_, rfl⟩
  rw [hF.out]
  go_enter Try.func30, Try.ntmps30
  go_wp2_with fail
  rw [← hW0.out]
  clear hW0
  refine (s.caGood_m _ _ d (kSh.rd_ext HR.out X.out) hok).mono ?_
  rintro e1 w1 ⟨rfl, x1⟩
  replace X := hide (X.out.trans x1)
  replace B0 := hide (B0.out.ext x1)
  clear x1
  have cB := B0.out.cell
  cases hs : sheetB d
  · have HF : Hid (F = (false, false)) := by show _ = _; rw [← hF.out]; simp [finalF, hs]
    clear hs
    go_wp2
    go_ret2
    rw [HF.out]
    exact ⟨rfl, X.out⟩
  have HS := hide hs
  have HF : Hid (F = (((pairs (missP d) d.1).length : Int) == 0, true)) := by show _ = _; rw [← hF.out]; simp [finalF, hs]
  have hit : itemsB d.1 = true := by simp only [sheetB, cleanB, Bool.and_eq_true] at hs; exact hs.1.1.1.1.1
  have HIT := hide hit
  have hv3 := sheetB_votes hs
  clear hs hit hF
  have FE := hide (final_eq HS.out)
  replace HF : Hid (F = (!badV d && (((pairs (openP d) d.1).length : Int) == 0), true)) := by show _ = _; rw [HF.out, FE.out]
  have HBAD : Hid (∀ (j : Nat) (x : List (List Int)), d.2.1[j]? = some x → x.any (fun l => l.any (fun z => z == -1)) = true → F = (false, true)) := fun j x hx h8 => by
    rw [HF.out, show badV d = true from List.any_eq_true.2 ⟨x, List.mem_of_getElem? hx, h8⟩]; rfl
  obtain ⟨H2x, H2⟩ : ∃ q, Hid (LR kdLL w w.heap.size A' c' d.2.1) ∧ q = 0 := by
    obtain ⟨A1, c1, A2, c2, D1, e1, he, h1, h2, h3⟩ := kSh.lr HR.out
    simp only [Value.agg.injEq, Array.mk.injEq, List.cons.injEq, Value.slice.injEq, and_true] at he
    obtain ⟨⟨rfl, _, rfl⟩, ⟨rfl, _, rfl⟩, ⟨rfl, _, rfl⟩⟩ := he
    exact ⟨0, h2, rfl⟩
  replace H2 := H2.1
  have a3 := H2.out.1; have a4 := H2.out.2.1
  have WR : Hid (∀ (j : Nat) (x : List (List Int)), d.2.1[j]? = some x → x.length ≤ 14 ∧ ∀ (i : Nat) (l : List Int), x[i]? = some l → l.length ≤ 3) := fun j x hx => by
    obtain ⟨e1, e2⟩ := sheetB_rows HS.out (List.mem_of_getElem? hx)
    have k2 : d.1.length ≤ 14 := by have := HIT.out; simp [itemsB] at this; omega
    refine ⟨by omega, fun i l hl => ?_⟩
    have hi := (List.getElem?_eq_some_iff.1 hl).1
    have e3 := e2 i (by omega)
    rw [List.getD_eq_getElem?_getD, hl] at e3
    have := names_three HIT.out i
    simp at e3
    omega
  rw [hn'.out] at hv3 a3
  have n3 : n' ≤ 3 ∧ 3 ≤ n' := by omega
  clear hv3
  go_wp2
  clear cB
  go_loopw [14] (fun i0 wq => ∃ (j : Nat), j ≤ n' ∧ i0 = .int .i64 j ∧ (d.2.1.take j).any (fun v => v.any (fun l => l.any (fun z => z == -1))) = false ∧ wq = w1) (fun i0 _ => n' - (intOf i0).toNat)
  case atStart => exact ⟨0, Nat.zero_le _, rfl, rfl, rfl⟩
  case round =>
    obtain ⟨j, hj, rfl, hno, rfl⟩ := hrel
    have HNO := hide hno
    clear hno
    have cB := B0.out.cell
    by_cases hltj : j < n'
    · obtain ⟨x, hxk⟩ : ∃ x, Hid (d.2.1[j]? = some x) := ⟨_, List.getElem?_eq_getElem (by rw [hn'.out]; exact hltj)⟩
      obtain ⟨b, off, Ak, ck, rfl, hb, hck, hrk⟩ := (H2.out.ext X.out (Nat.le_refl _)).voteS j x hxk.out
      obtain ⟨x14, xr⟩ := WR.out j x hxk.out
      have XR := hide xr
      have z1 := hrk.1; have z2 := hrk.2.1
      have HK := hide hrk
      have BAD := hide (HBAD.out j x hxk.out)
      have STEP : Hid (x.any (fun l => l.any (fun z => z == -1)) = false → (d.2.1.take (j + 1)).any (fun v => v.any (fun l => l.any (fun z => z == -1))) = false) := fun h8 => by
        obtain ⟨hk', e⟩ := List.getElem?_eq_some_iff.1 hxk.out
        rw [List.take_succ_eq_append_getElem hk', List.any_append, HNO.out, e]
        simpa using h8
      clear hrk xr
      obtain ⟨q, hq⟩ : ∃ q, Hid (x.length = q) := ⟨_, rfl⟩
      rw [hq.out] at hck z1 x14
      go_wp2
      go_loopw [20] (fun i0 wq => ∃ (k : Nat), k ≤ q ∧ i0 = .int .i64 k ∧ (x.take k).any (fun l => l.any (fun z => z == -1)) = false ∧ wq = wr) (fun i0 _ => q - (intOf i0).toNat)
      case atStart => exact ⟨0, Nat.zero_le _, rfl, rfl, rfl⟩
      case round =>
        obtain ⟨k, hk5, rfl, hno5, rfl⟩ := hrel
        have HN5 := hide hno5
        clear hno5
        by_cases hltk : k < q
        · obtain ⟨l, hlk⟩ : ∃ l, Hid (x[k]? = some l) := ⟨_, List.getElem?_eq_getElem (by rw [hq.out]; exact hltk)⟩
          obtain ⟨b6, off6, A3, c3, rfl, hb6, q3, r3⟩ := HK.out.rowS k l hlk.out
          have hl3 := XR.out k l hlk.out
          have LH := hide (s.l1Has_any A3 l.length c3 w.heap.size l (-1) _ r3.sl (by omega))
          have S1 : Hid (l.any (fun z => z == -1) = true → F = (false, true)) := fun h8 => BAD.out (List.any_eq_true.2 ⟨l, List.mem_of_getElem? hlk.out, h8⟩)
          have S2 : Hid (l.any (fun z => z == -1) = false → (x.take (k + 1)).any (fun l => l.any (fun z => z == -1)) = false) := fun h8 => by
            obtain ⟨hk', e⟩ := List.getElem?_eq_some_iff.1 hlk.out
            rw [List.take_succ_eq_append_getElem hk', List.any_append, HN5.out, e]
            simpa using h8
          clear r3
          generalize l.length = m9 at *
          cases hb9 : l.any (fun z => z == -1)
          · have HF9 := hide (S2.out hb9)
            rw [hb9] at LH
            clear hb9
            go_wp2_with (go_at_call 84; refine LH.out.mono ?_; rintro e1 w' ⟨rfl, rfl⟩)
            go_roundw
            case rel => exact ⟨k + 1, by omega, by go_num, HF9.out, trivial⟩
            case measure => simp [intOf]; omega
          · have HF9 := hide (S1.out hb9)
            rw [hb9] at LH
            clear hb9
            go_wp2_with (go_at_call 84; refine LH.out.mono ?_; rintro e1 w' ⟨rfl, rfl⟩)
            go_ret2
            rw [HF9.out]
            exact ⟨rfl, X.out⟩
        · have HF9 := hide (STEP.out (by have h8 := HN5.out; rwa [List.take_of_length_le (by rw [hq.out]; omega)] at h8))
          go_wp2
          go_roundw
          case rel => exact ⟨j + 1, by omega, by go_num, HF9.out, trivial⟩
          case measure => simp [intOf]; omega
    · have HB : Hid (badV d = false) := by have h8 := HNO.out; rwa [List.take_of_length_le (by rw [hn'.out]; omega)] at h8
      replace HF : Hid (F = (((pairs (openP d) d.1).length : Int) == 0, true)) := by show _ = _; rw [HF.out, HB.out]; rfl
      go_wp2_with fail
      refine (s.caOpen_m _ _ d (kSh.rd_ext HR.out X.out) hok HS.out).mono ?_
      rintro e1 w2 ⟨A9, c9, fp, rfl, hl, hf, x2⟩
      replace X := hide (X.out.trans x2)
      have hcap := hl.cap
      clear hl hf x2 cB
      generalize (pairs (openP d) d.1).length = L at *
      go_wp2
      go_ret2
      rw [HF.out]
      exact ⟨rfl, X.out⟩
end Go.Proofs.Ytigfhllnfgfdoaa
