/- IsFinal. -/
import Derived.Test.YtofmfagdaiphaaaNY
import Derived.Test.YtofmfagdaiphaaaNZ
namespace Go.Proofs.Ytofmfagdaiphaaa
open Go.RowKit Go.Sort
set_option linter.unusedVariables false

theorem pairsN_nil (P : Nat → Nat → Bool) (xs : List ItD) (n : Nat) : pairsN P xs n = [] ↔ ∀ i, i < n → ∀ k, k < (namesAt xs i).length → P i k = false := by
  unfold pairsN rowP
  rw [List.flatMap_eq_nil_iff]
  constructor
  · intro h i hi k hk
    have h1 := h i (List.mem_range.2 hi)
    rw [List.flatMap_eq_nil_iff] at h1
    have h2 := h1 k (List.mem_range.2 hk)
    cases hp : P i k
    · rfl
    · rw [hp] at h2; simp at h2
  · intro h i hi
    rw [List.flatMap_eq_nil_iff]
    intro k hk
    rw [h i (List.mem_range.1 hi) k (List.mem_range.1 hk)]
    simp
def lowV (d : ShD) (i k : Nat) : Bool := d.2.1.any (fun v => decide (voteAt v i k < 0))
def missP (d : ShD) (i k : Nat) : Bool := lowV d i k || openP d i k
def badV (d : ShD) : Bool := d.2.1.any (fun v => v.any (fun l => l.any (fun z => z == -1)))
def finalF (d : ShD) : Bool × Bool := if sheetB d then (((pairs (missP d) d.1).length : Int) == 0, true) else (false, false)
theorem badV_iff {d : ShD} (hs : sheetB d = true) : badV d = false ↔ ∀ i, i < d.1.length → ∀ k, k < (namesAt d.1 i).length → lowV d i k = false := by
  have hrange : ∀ v ∈ d.2.1, ∀ i, i < d.1.length → ∀ z ∈ v.getD i [], -1 ≤ z := by
    intro v hv i hi z hz
    simp only [sheetB, Bool.and_eq_true, List.all_eq_true] at hs
    have h1 := hs.1.2 v hv
    simp only [votesB, Bool.and_eq_true, List.all_eq_true, beq_iff_eq, rowB, List.mem_range, inB, decide_eq_true_eq] at h1
    exact ((h1.2 i hi).2 z hz).1
  unfold badV lowV
  simp only [List.any_eq_false, decide_eq_true_eq]
  constructor
  · intro h i hi k hk v hv hlt
    obtain ⟨e1, e2⟩ := sheetB_rows hs hv
    have hil : i < v.length := by omega
    have hvi : v.getD i [] = v[i] := by rw [List.getD_eq_getElem?_getD, List.getElem?_eq_getElem hil]; rfl
    have e3 := e2 i hi
    have hkl : k < (v.getD i []).length := by omega
    have hz : voteAt v i k = (v.getD i [])[k] := by unfold voteAt; rw [List.getD_eq_getElem?_getD (l := v.getD i []), List.getElem?_eq_getElem hkl]; rfl
    have hmem : voteAt v i k ∈ v.getD i [] := by rw [hz]; exact List.getElem_mem _
    have h3 := hrange v hv i hi _ hmem
    have h4 := h v hv
    simp only [List.any_eq_true, not_exists, not_and, beq_iff_eq] at h4
    exact h4 (v.getD i []) (by rw [hvi]; exact List.getElem_mem _) _ hmem (by omega)
  · intro h v hv
    simp only [List.any_eq_true, not_exists, not_and, beq_iff_eq]
    intro l hl z hz he
    obtain ⟨e1, e2⟩ := sheetB_rows hs hv
    obtain ⟨i, hil, rfl⟩ := List.getElem_of_mem hl
    obtain ⟨k, hkl, hzk⟩ := List.getElem_of_mem hz
    have hvi : v.getD i [] = v[i] := by rw [List.getD_eq_getElem?_getD, List.getElem?_eq_getElem hil]; rfl
    have e3 := e2 i (by omega)
    rw [hvi] at e3
    refine h i (by omega) k (by omega) v hv ?_
    unfold voteAt
    rw [hvi, List.getD_eq_getElem?_getD, List.getElem?_eq_getElem hkl]
    simp only [Option.getD_some]
    omega
theorem final_eq {d : ShD} (hs : sheetB d = true) : (((pairs (missP d) d.1).length : Int) == 0) = (!badV d && (((pairs (openP d) d.1).length : Int) == 0)) := by
  have h0 : ∀ P : Nat → Nat → Bool, (((pairs P d.1).length : Int) == 0) = true ↔ ∀ i, i < d.1.length → ∀ k, k < (namesAt d.1 i).length → P i k = false := by
    intro P
    rw [← pairsN_nil]
    simp [pairs]
  rw [Bool.eq_iff_iff, Bool.and_eq_true, h0, h0, Bool.not_eq_true', badV_iff hs]
  unfold missP
  simp only [Bool.or_eq_false_iff]
  exact ⟨fun h => ⟨fun i hi k hk => (h i hi k hk).1, fun i hi k hk => (h i hi k hk).2⟩, fun h i hi k hk => ⟨h.1 i hi k hk, h.2 i hi k hk⟩⟩

set_option maxHeartbeats 1000000 in
theorem s.l1Has_any (A : Option Addr) (n c B : Nat) (zs : List Int) (y : Int) (w : World) (h : SlI w B A n zs) (hn : n ≤ 1048576) :
    Calls Try.prog 64 #[.slice A n c, .int .i64 y] w fun e w' => e = .returned (.bool (zs.any (fun z => z == y))) ∧ w = w' := by
  have hl := hide h.len
  obtain ⟨R, hR⟩ : ∃ R, Hid (zs.any (fun z => z == y) = R) := ⟨_, rfl⟩
  rw [hR.out]
  go_enter Try.func64, Try.ntmps64
  go_wp2
  go_loop [6, 9] (fun _ i => ∃ k : Nat, k ≤ n ∧ i = .int .i64 k ∧ (zs.take k).any (fun z => z == y) = false) (fun _ i => n - (intOf i).toNat)
  case atStart => exact ⟨0, Nat.zero_le _, rfl, rfl⟩
  case round =>
    obtain ⟨k, hk, rfl, hall⟩ := hrel
    have H := hide hall; clear hall
    by_cases hlt : k < n
    · obtain ⟨b, off, rfl, hb, hc⟩ := h.cells (by omega)
      have hck := hc k hlt
      have hx : zs[k]? = some (zs.getD k 0) := by rw [List.getD_eq_getElem?_getD, List.getElem?_eq_getElem (by rw [hl.out]; exact hlt)]; rfl
      have HX := hide hx
      clear hc hx
      generalize zs.getD k 0 = x at *
      by_cases e1 : x = y
      · have b1 : (x == y) = true := by simp [e1]
        have HF : Hid (R = true) := by show _ = _; rw [← hR.out, List.any_eq_true]; exact ⟨x, List.mem_of_getElem? HX.out, b1⟩
        clear e1
        go_wp2
        go_ret
        exact ⟨ret_bool HF.out.symm, rfl⟩
      · have b1 : (x == y) = false := by simp [e1]
        have B1 := hide b1
        clear e1
        go_wp2
        go_round
        case rel =>
          obtain ⟨hk', e⟩ := List.getElem?_eq_some_iff.1 HX.out
          exact ⟨k + 1, by omega, by go_num, by rw [List.take_succ_eq_append_getElem hk', List.any_append, H.out, e]; simpa using B1.out⟩
        case measure => simp [intOf]; omega
    · have HF : Hid (R = false) := by show _ = _; rw [← hR.out]; have h8 := H.out; rwa [List.take_of_length_le (by rw [hl.out]; omega)] at h8
      go_wp2
      go_ret
      exact ⟨ret_bool HF.out.symm, rfl⟩

set_option maxRecDepth 100000 in
set_option maxHeartbeats 2000000 in
theorem final1_any (w : World) (g : Nat) (d : ShD) (ix kx : Nat) (A A' D : Option Addr) (n c n' c' m' e : Nat) (hb0 : Blk w g #[.slice A n c, .slice A' n' c', .slice D m' e] 28) (h : kSh.rd w (.agg #[.slice A n c, .slice A' n' c', .slice D m' e]) d) (hok : kSh.ok d) (hs : sheetB d = true) (hi : ix < d.1.length) (hk : kx < (namesAt d.1 ix).length) :
    Calls Try.prog 63 #[.int .i64 ix, .int .i64 kx, .pointer (some ⟨g, 0, none⟩)] w fun e w' => e = .returned (.bool (missP d ix kx)) ∧ Ext w w' := by
  obtain ⟨A1, c1, A2, c2, D1, e1, he, h1, h2, h3⟩ := kSh.lr h
  simp only [Value.agg.injEq, Array.mk.injEq, List.cons.injEq, Value.slice.injEq, and_true] at he
  obtain ⟨⟨rfl, rfl, rfl⟩, ⟨rfl, rfl, rfl⟩, ⟨rfl, rfl, rfl⟩⟩ := he
  have CALL := hide (i.callOf_m w _ d ix kx h hok hs hi hk)
  have hv3 := sheetB_votes hs
  have VR : Hid (∀ (j : Nat) (x : List (List Int)), d.2.1[j]? = some x → ix < x.length ∧ x.length ≤ 14 ∧ kx < (x.getD ix []).length ∧ (x.getD ix []).length ≤ 3) := fun j x hx => by
    obtain ⟨e1, e2⟩ := sheetB_rows hs (List.mem_of_getElem? hx)
    have e3 := e2 ix hi
    have k2 : d.1.length ≤ 14 := by simp [sheetB, cleanB, itemsB] at hs; omega
    have k4 := names_three (show itemsB d.1 = true by simp only [sheetB, cleanB, Bool.and_eq_true] at hs; exact hs.1.1.1.1.1) ix
    omega
  have k2 : d.1.length ≤ 14 := by simp [sheetB, cleanB, itemsB] at hs; omega
  have k4 := names_three (show itemsB d.1 = true by simp only [sheetB, cleanB, Bool.and_eq_true] at hs; exact hs.1.1.1.1.1) ix
  have a3 := h2.1; have a4 := h2.2.1
  have H2 := hide h2
  have B0 := hide hb0
  have cB := hb0.cell
  clear h h1 h2 h3 hs hb0
  obtain ⟨R, hR⟩ : ∃ R, Hid (missP d ix kx = R) := ⟨_, rfl⟩
  rw [hR.out]
  obtain ⟨C, hC⟩ : ∃ C, Hid (callF d ix kx = C) := ⟨_, rfl⟩
  rw [hC.out] at CALL
  have HSTOP : Hid (∀ (j : Nat) (x : List (List Int)), d.2.1[j]? = some x → voteAt x ix kx < 0 → R = true) := fun j x hx hlt => by
    rw [← hR.out, missP, lowV, show d.2.1.any (fun v => decide (voteAt v ix kx < 0)) = true from List.any_eq_true.2 ⟨x, List.mem_of_getElem? hx, by simpa using hlt⟩]; rfl
  have HEND : Hid (d.2.1.any (fun v => decide (voteAt v ix kx < 0)) = false → R = decide (C < 0)) := fun h8 => by
    rw [← hR.out, missP, lowV, h8, openP, hC.out]; rfl
  clear hR hC
  obtain ⟨n', hn'⟩ : ∃ n', Hid (d.2.1.length = n') := ⟨_, rfl⟩
  obtain ⟨m', hm'⟩ : ∃ n', Hid (d.2.2.length = n') := ⟨_, rfl⟩
  obtain ⟨n, hn⟩ : ∃ n', Hid (d.1.length = n') := ⟨_, rfl⟩
  rw [hn.out] at hi k2
  rw [hn'.out] at a3 hv3
  rw [hn.out, hn'.out, hm'.out] at cB CALL
  have n3 : n' ≤ 3 ∧ 3 ≤ n' := by omega
  have kx3 : kx < 3 := by omega
  clear hv3 hk k4
  go_enter Try.func63, Try.ntmps63
  go_wp2
  go_loopw [11] (fun ix0 wq => ∃ (j : Nat), j ≤ n' ∧ ix0 = .int .i64 j ∧ (d.2.1.take j).any (fun v => decide (voteAt v ix kx < 0)) = false ∧ wq = w) (fun ix0 _ => n' - (intOf ix0).toNat)
  case atStart => exact ⟨0, Nat.zero_le _, rfl, rfl, rfl⟩
  case round =>
    obtain ⟨j, hj, rfl, hno, rfl⟩ := hrel
    have HNO := hide hno
    clear hno
    by_cases hltj : j < n'
    · obtain ⟨x, hxk⟩ : ∃ x, Hid (d.2.1[j]? = some x) := ⟨_, List.getElem?_eq_getElem (by rw [hn'.out]; exact hltj)⟩
      obtain ⟨b, off, Ak, ck, rfl, hb, hck, hrk⟩ := H2.out.voteS j x hxk.out
      obtain ⟨v1, v2, v3, v4⟩ := VR.out j x hxk.out
      have z1 := hrk.1; have z2 := hrk.2.1
      obtain ⟨b5, off5, A3, c3, b6, off6, rfl, p1, rfl, p2, z3, z4⟩ := vote_cells hrk v1 v3
      have ST := hide (HSTOP.out j x hxk.out)
      have SP : Hid (¬ voteAt x ix kx < 0 → (d.2.1.take (j + 1)).any (fun v => decide (voteAt v ix kx < 0)) = false) := fun h8 => by
        obtain ⟨hk', e⟩ := List.getElem?_eq_some_iff.1 hxk.out
        rw [List.take_succ_eq_append_getElem hk', List.any_append, HNO.out, e]
        simpa using h8
      clear hrk
      generalize voteAt x ix kx = vt at *
      generalize (x.getD ix []).length = m9 at *
      generalize x.length = m8 at *
      by_cases hq9 : vt < 0
      · have HF := hide (ST.out hq9)
        go_wp2
        go_ret
        exact ⟨ret_bool HF.out.symm, Ext.refl _⟩
      · have HF := hide (SP.out hq9)
        go_wp2
        go_roundw
        case rel => exact ⟨j + 1, by omega, by go_num, HF.out, trivial⟩
        case measure => simp [intOf]; omega
    · have HF : Hid (R = decide (C < 0)) := HEND.out (by have h8 := HNO.out; rwa [List.take_of_length_le (by rw [hn'.out]; omega)] at h8)
      go_wp2_with fail
      refine CALL.out.mono ?_
      rintro e1 w2 ⟨rfl, x2⟩
      have X := hide x2
      clear x2
      go_wp2
      go_ret
      exact ⟨ret_bool HF.out.symm, X.out⟩
end Go.Proofs.Ytofmfagdaiphaaa
