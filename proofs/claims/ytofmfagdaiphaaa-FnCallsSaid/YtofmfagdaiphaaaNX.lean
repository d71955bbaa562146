/- The call of a name. -/
import Derived.Test.YtofmfagdaiphaaaNW
namespace Go.Proofs.Ytofmfagdaiphaaa
open Go.RowKit Go.Sort
set_option linter.unusedVariables false

theorem voteF_first {vs : List (List (List Int))} {ix kx q : Nat} (hq : q < 4) (h : ∀ j : Nat, j < q → ¬ 2 ≤ countV vs ix kx (j : Int)) (h2 : 2 ≤ countV vs ix kx (q : Int)) : voteF vs ix kx = q := by
  unfold voteF
  rcases (by omega : q = 0 ∨ q = 1 ∨ q = 2 ∨ q = 3) with e | e | e | e <;> subst e
  · rw [if_pos (by simpa using h2)]; rfl
  · have h0 := h 0 (by omega)
    rw [if_neg (by simpa using h0), if_pos (by simpa using h2)]; rfl
  · have h0 := h 0 (by omega); have h1 := h 1 (by omega)
    rw [if_neg (by simpa using h0), if_neg (by simpa using h1), if_pos (by simpa using h2)]; rfl
  · have h0 := h 0 (by omega); have h1 := h 1 (by omega); have h3 := h 2 (by omega)
    rw [if_neg (by simpa using h0), if_neg (by simpa using h1), if_neg (by simpa using h3), if_pos (by simpa using h2)]; rfl
theorem voteF_none {vs : List (List (List Int))} {ix kx : Nat} (h : ∀ j : Nat, j < 4 → ¬ 2 ≤ countV vs ix kx (j : Int)) : voteF vs ix kx = -1 := by
  have h0 := h 0 (by omega); have h1 := h 1 (by omega); have h2 := h 2 (by omega); have h3 := h 3 (by omega)
  unfold voteF
  rw [if_neg (by simpa using h0), if_neg (by simpa using h1), if_neg (by simpa using h2), if_neg (by simpa using h3)]
/-- Where a vote lies. -/
theorem vote_cells {w : World} {B c ix kx : Nat} {A : Option Addr} {x : List (List Int)} (h : LR kdL w B A c x) (hi : ix < x.length) (hk : kx < (x.getD ix []).length) :
    ∃ b off A3 c3 b3 off3, A = some ⟨b, off, none⟩ ∧ w.cell? ⟨b, off + ix, none⟩ = some (.slice A3 (x.getD ix []).length c3) ∧ A3 = some ⟨b3, off3, none⟩ ∧ w.cell? ⟨b3, off3 + kx, none⟩ = some (.int .i64 (voteAt x ix kx)) ∧ (x.getD ix []).length ≤ c3 ∧ c3 ≤ 9223372036854775807 := by
  have hx : x[ix]? = some (x.getD ix []) := by rw [List.getD_eq_getElem?_getD, List.getElem?_eq_getElem hi]; rfl
  obtain ⟨b, off, A3, c3, rfl, hb, hc, hr⟩ := h.rowS ix _ hx
  obtain ⟨b3, off3, rfl, hb3, hc3⟩ := hr.sl.cells (by omega)
  exact ⟨b, off, _, c3, b3, off3, rfl, hc, rfl, hc3 kx hk, hr.1, hr.2.1⟩

set_option maxRecDepth 100000 in
set_option maxHeartbeats 4000000 in
theorem s.caCall_m (w : World) (v : Value) (d : ShD) (ix kx : Nat) (h : kSh.rd w v d) (hok : kSh.ok d) (hs : sheetB d = true) (hi : ix < d.1.length) (hk : kx < (namesAt d.1 ix).length) :
    Calls Try.prog 66 #[v, .int .i64 ix, .int .i64 kx] w fun e w' => e = .returned (.int .i64 (callF d ix kx)) ∧ Ext w w' := by
  obtain ⟨A, c, A', c', D, e, rfl, h1, h2, h3⟩ := kSh.lr h
  have hv3 := sheetB_votes hs
  have HS := hide hs
  have k2 : d.1.length ≤ 14 := by simp [sheetB, cleanB, itemsB] at hs; omega
  have k3 : d.2.2.length ≤ 20 := by simp [sheetB] at hs; omega
  have k4 : (namesAt d.1 ix).length ≤ 3 := by
    have hx : d.1[ix]? = some d.1[ix] := List.getElem?_eq_getElem hi
    rw [namesAt_some hx]
    simp only [sheetB, cleanB, itemsB, Bool.and_eq_true, List.all_eq_true] at hs
    exact (itemB_ok (hs.1.1.1.1.1.1 _ (List.getElem_mem hi))).2.1
  have VR : Hid (∀ (j : Nat) (x : List (List Int)), d.2.1[j]? = some x → ix < x.length ∧ x.length ≤ 14 ∧ kx < (x.getD ix []).length ∧ (x.getD ix []).length ≤ 3) := fun j x hx => by
    obtain ⟨e1, e2⟩ := sheetB_rows hs (List.mem_of_getElem? hx)
    have e3 := e2 ix hi
    omega
  have a1 := h1.1; have a2 := h1.2.1; have a3 := h2.1; have a4 := h2.2.1; have a5 := h3.1; have a6 := h3.2.1
  have H2 := hide h2
  have H3 := hide h3
  clear h h1 h2 h3 hs
  obtain ⟨C, hC⟩ : ∃ C, Hid (callF d ix kx = C) := ⟨_, rfl⟩
  rw [hC.out]
  obtain ⟨Q, hQ⟩ : ∃ Q, Hid (voteF d.2.1 ix kx = Q) := ⟨_, rfl⟩
  have CE : Hid (revF d.2.2 ix kx Q = C) := by show _ = _; rw [← hC.out, callF, hQ.out]
  clear hC
  obtain ⟨n, hn⟩ : ∃ n, Hid (d.1.length = n) := ⟨_, rfl⟩
  obtain ⟨n', hn'⟩ : ∃ n', Hid (d.2.1.length = n') := ⟨_, rfl⟩
  obtain ⟨m', hm'⟩ : ∃ n', Hid (d.2.2.length = n') := ⟨_, rfl⟩
  have U4 : Hid (voteUp d.2.1 ix kx 4 = Q) := by show _ = _; rw [voteUp_four hv3, hQ.out]
  rw [hn.out] at a1 hi k2 ⊢
  rw [hn'.out] at a3 hv3 ⊢
  rw [hm'.out] at a5 k3 ⊢
  have n3 : n' ≤ 3 ∧ 3 ≤ n' := by omega
  have kx3 : kx < 3 := by omega
  clear hv3 hk k4
  obtain ⟨W0, hW0⟩ : ∃ W0, Hid (W0 = w.alloc (.cells #[.slice A n c, .slice A' n' c', .slice D m' e] 28)) := ⟨_, rfl⟩
  have X : Hid (Ext w W0) := by rw [hW0.out]; exact Ext.alloc w _
  have B0 : Hid (Blk W0 w.heap.size #[.slice A n c, .slice A' n' c', .slice D m' e] 28) := by rw [hW0.out]; exact Blk.new rfl _ _
  have cBn : ∀ i, (w.alloc (.cells #[.slice A n c, .slice A' n' c', .slice D m' e] 28)).cell? ⟨w.heap.size, i, none⟩ = #[Value.slice A n c, .slice A' n' c', .slice D m' e][i]? := by rw [← hW0.out]; exact B0.out.cell
  go_enter Try.func66, Try.ntmps66
  go_wp2
  rw [← hW0.out]
  clear hW0 cBn
  go_loopw [7, 8] (fun cl mk wr => ∃ (q : Nat), q ≤ 4 ∧ mk = .int .i64 q ∧ cl = .int .i64 (voteUp d.2.1 ix kx q) ∧ Blk wr w.heap.size #[.slice A n c, .slice A' n' c', .slice D m' e] 28 ∧ Ext w wr) (fun _ mk _ => 4 - (intOf mk).toNat)
  case atStart => exact ⟨0, Nat.zero_le _, rfl, rfl, B0.out, X.out⟩
  case round =>
    obtain ⟨q, hq, rfl, rfl, hb0, hx⟩ := hrel
    clear B0 X
    have B0 := hide hb0
    have X := hide hx
    clear hb0 hx
    have cB := B0.out.cell
    by_cases hlt : q < 4
    · go_wp2
      go_loopw [9, 21] (fun ct ix0 wq => ∃ (j : Nat), j ≤ n' ∧ ix0 = .int .i64 j ∧ ct = .int .i64 (countV (d.2.1.take j) ix kx (q : Int)) ∧ wq = wr) (fun _ ix0 _ => n' - (intOf ix0).toNat)
      case atStart => exact ⟨0, Nat.zero_le _, rfl, rfl, rfl⟩
      case round =>
        obtain ⟨j, hj, rfl, rfl, rfl⟩ := hrel
        have hcj := countV_le (d.2.1.take j) ix kx (q : Int)
        rw [List.length_take] at hcj
        by_cases hltj : j < n'
        · obtain ⟨x, hxk⟩ : ∃ x, Hid (d.2.1[j]? = some x) := ⟨_, List.getElem?_eq_getElem (by rw [hn'.out]; exact hltj)⟩
          obtain ⟨b, off, Ak, ck, rfl, hb, hck, hrk⟩ := (H2.out.ext X.out (Nat.le_refl _)).voteS j x hxk.out
          obtain ⟨v1, v2, v3, v4⟩ := VR.out j x hxk.out
          have z1 := hrk.1; have z2 := hrk.2.1
          obtain ⟨b5, off5, A3, c3, b6, off6, rfl, p1, rfl, p2, z3, z4⟩ := vote_cells hrk v1 v3
          have CS := hide (countV_succ hxk.out ix kx (q : Int))
          clear hrk
          generalize hvt : voteAt x ix kx = vt at *
          generalize (x.getD ix []).length = m9 at *
          generalize x.length = m8 at *
          clear hvt
          generalize hct : countV (List.take j d.2.1) ix kx (q : Int) = ct at *
          by_cases hq9 : vt = (q : Int)
          · have b1 : (vt == (q : Int)) = true := by simp [hq9]
            replace CS : Hid (countV (List.take (j + 1) d.2.1) ix kx (q : Int) = ct + 1) := by show _ = _; rw [CS.out, if_pos b1]
            clear hq9
            go_wp2
            go_roundw
            case rel => exact ⟨j + 1, by omega, by go_num, by rw [CS.out]; go_num, trivial⟩
            case measure => simp [intOf]; omega
          · have b1 : (vt == (q : Int)) = false := by simp [hq9]
            replace CS : Hid (countV (List.take (j + 1) d.2.1) ix kx (q : Int) = ct) := by show _ = _; rw [CS.out, if_neg (by simp [b1])]; rfl
            clear hq9
            go_wp2
            go_roundw
            case rel => exact ⟨j + 1, by omega, by go_num, by rw [CS.out], trivial⟩
            case measure => simp [intOf]; omega
        · have ej : n' = j := by omega
          subst ej
          rw [List.take_of_length_le (by rw [hn'.out]; exact Nat.le_refl _)] at *
          have CU := hide (show voteUp d.2.1 ix kx (q + 1) = if 2 ≤ countV d.2.1 ix kx (q : Int) then (q : Int) else voteUp d.2.1 ix kx q from rfl)
          by_cases h2 : 2 ≤ countV d.2.1 ix kx (q : Int)
          · replace CU : Hid (voteUp d.2.1 ix kx (q + 1) = (q : Int)) := by show _ = _; rw [CU.out, if_pos h2]
            generalize countV d.2.1 ix kx (q : Int) = ct at *
            generalize voteUp d.2.1 ix kx q = vu at *
            have h2' : (2 : Int) ≤ (ct : Int) := by omega
            go_wp2
            go_roundw
            case rel => exact ⟨q + 1, by omega, by go_num, by rw [CU.out], B0.out, X.out⟩
            case measure => simp [intOf]; omega
          · replace CU : Hid (voteUp d.2.1 ix kx (q + 1) = voteUp d.2.1 ix kx q) := by show _ = _; rw [CU.out, if_neg h2]
            generalize countV d.2.1 ix kx (q : Int) = ct at *
            generalize voteUp d.2.1 ix kx q = vu at *
            have h2' : ¬ (2 : Int) ≤ (ct : Int) := by omega
            go_wp2
            go_roundw
            case rel => exact ⟨q + 1, by omega, by go_num, by rw [CU.out], B0.out, X.out⟩
            case measure => simp [intOf]; omega
    · have e4 : q = 4 := by omega
      subst e4
      rw [U4.out]
      go_wp2
      clear cB
      go_loopw [7, 43] (fun cl ix0 wr => ∃ (j : Nat), j ≤ m' ∧ ix0 = .int .i64 j ∧ cl = .int .i64 (revF (d.2.2.take j) ix kx Q) ∧ Blk wr w.heap.size #[.slice A n c, .slice A' n' c', .slice D m' e] 28 ∧ Ext w wr) (fun _ ix0 _ => m' - (intOf ix0).toNat)
      case atStart => exact ⟨0, Nat.zero_le _, rfl, rfl, B0.out, X.out⟩
      case round =>
        obtain ⟨j, hj, rfl, rfl, hb0, hx⟩ := hrel
        clear B0 X
        have B0 := hide hb0
        have X := hide hx
        clear hb0 hx
        by_cases hltj : j < m'
        · obtain ⟨x, hxk⟩ : ∃ x, Hid (d.2.2[j]? = some x) := ⟨_, List.getElem?_eq_getElem (by rw [hm'.out]; exact hltj)⟩
          obtain ⟨b, off, rfl, hb, q0, q1, q2⟩ := (H3.out.ext X.out (Nat.le_refl _)).review j x hxk.out
          have RS := hide (revF_step hxk.out ix kx Q)
          have RA := hide (show rvAt ix kx x = ((x.1 == (ix : Int)) && (x.2.1 == (kx : Int))) from rfl)
          have x1 := fun o => Ext.alloc wr o
          generalize x.1 = r1 at *
          generalize x.2.1 = r2 at *
          generalize x.2.2 = r3 at *
          generalize revF (List.take j d.2.2) ix kx Q = cur at *
          replace X := hide (X.out.trans (x1 (.cells #[.int .i64 r1, .int .i64 r2, .int .i64 r3] 30)))
          replace B0 := hide (B0.out.ext (x1 (.cells #[.int .i64 r1, .int .i64 r2, .int .i64 r3] 30)))
          clear x1
          by_cases e1 : r1 = (ix : Int)
          · have b1 : (r1 == (ix : Int)) = true := by simp [e1]
            by_cases e2 : r2 = (kx : Int)
            · have b2 : (r2 == (kx : Int)) = true := by simp [e2]
              replace RS : Hid (revF (List.take (j + 1) d.2.2) ix kx Q = r3) := by show _ = _; rw [RS.out, if_pos (by rw [RA.out, b1, b2]; rfl)]
              clear e1 e2
              go_wp2
              go_roundw
              case rel => exact ⟨j + 1, by omega, by go_num, by rw [RS.out], B0.out, X.out⟩
              case measure => simp [intOf]; omega
            · have b2 : (r2 == (kx : Int)) = false := by simp [e2]
              replace RS : Hid (revF (List.take (j + 1) d.2.2) ix kx Q = cur) := by show _ = _; rw [RS.out, if_neg (by rw [RA.out, b1, b2]; simp)]
              clear e1 e2
              go_wp2
              go_roundw
              case rel => exact ⟨j + 1, by omega, by go_num, by rw [RS.out], B0.out, X.out⟩
              case measure => simp [intOf]; omega
          · have b1 : (r1 == (ix : Int)) = false := by simp [e1]
            replace RS : Hid (revF (List.take (j + 1) d.2.2) ix kx Q = cur) := by show _ = _; rw [RS.out, if_neg (by rw [RA.out, b1]; simp)]
            clear e1
            go_wp2
            go_roundw
            case rel => exact ⟨j + 1, by omega, by go_num, by rw [RS.out], B0.out, X.out⟩
            case measure => simp [intOf]; omega
        · have ej : m' = j := by omega
          have CF : Hid (revF (List.take j d.2.2) ix kx Q = C) := by show _ = _; rw [List.take_of_length_le (by rw [hm'.out]; omega)]; exact CE.out
          rw [CF.out]
          go_wp2
          go_ret
          exact ⟨rfl, X.out⟩

set_option maxRecDepth 100000 in
set_option maxHeartbeats 4000000 in
theorem i.callOf_m (w : World) (v : Value) (d : ShD) (ix kx : Nat) (h : kSh.rd w v d) (hok : kSh.ok d) (hs : sheetB d = true) (hi : ix < d.1.length) (hk : kx < (namesAt d.1 ix).length) :
    Calls Try.prog 44 #[v, .int .i64 ix, .int .i64 kx] w fun e w' => e = .returned (.int .i64 (callF d ix kx)) ∧ Ext w w' := by
  obtain ⟨A, c, A', c', D, e, rfl, h1, h2, h3⟩ := kSh.lr h
  have hv3 := sheetB_votes hs
  have HS := hide hs
  have k2 : d.1.length ≤ 14 := by simp [sheetB, cleanB, itemsB] at hs; omega
  have k3 : d.2.2.length ≤ 20 := by simp [sheetB] at hs; omega
  have k4 : (namesAt d.1 ix).length ≤ 3 := by
    have hx : d.1[ix]? = some d.1[ix] := List.getElem?_eq_getElem hi
    rw [namesAt_some hx]
    simp only [sheetB, cleanB, itemsB, Bool.and_eq_true, List.all_eq_true] at hs
    exact (itemB_ok (hs.1.1.1.1.1.1 _ (List.getElem_mem hi))).2.1
  have VR : Hid (∀ (j : Nat) (x : List (List Int)), d.2.1[j]? = some x → ix < x.length ∧ x.length ≤ 14 ∧ kx < (x.getD ix []).length ∧ (x.getD ix []).length ≤ 3) := fun j x hx => by
    obtain ⟨e1, e2⟩ := sheetB_rows hs (List.mem_of_getElem? hx)
    have e3 := e2 ix hi
    omega
  have a1 := h1.1; have a2 := h1.2.1; have a3 := h2.1; have a4 := h2.2.1; have a5 := h3.1; have a6 := h3.2.1
  have H2 := hide h2
  have H3 := hide h3
  clear h h1 h2 h3 hs
  obtain ⟨C, hC⟩ : ∃ C, Hid (callF d ix kx = C) := ⟨_, rfl⟩
  rw [hC.out]
  obtain ⟨Q, hQ⟩ : ∃ Q, Hid (voteF d.2.1 ix kx = Q) := ⟨_, rfl⟩
  have CE : Hid (revF d.2.2 ix kx Q = C) := by show _ = _; rw [← hC.out, callF, hQ.out]
  clear hC
  obtain ⟨n, hn⟩ : ∃ n, Hid (d.1.length = n) := ⟨_, rfl⟩
  obtain ⟨n', hn'⟩ : ∃ n', Hid (d.2.1.length = n') := ⟨_, rfl⟩
  obtain ⟨m', hm'⟩ : ∃ n', Hid (d.2.2.length = n') := ⟨_, rfl⟩
  have U4 : Hid (voteUp d.2.1 ix kx 4 = Q) := by show _ = _; rw [voteUp_four hv3, hQ.out]
  rw [hn.out] at a1 hi k2 ⊢
  rw [hn'.out] at a3 hv3 ⊢
  rw [hm'.out] at a5 k3 ⊢
  have n3 : n' ≤ 3 ∧ 3 ≤ n' := by omega
  have kx3 : kx < 3 := by omega
  clear hv3 hk k4
  obtain ⟨W0, hW0⟩ : ∃ W0, Hid (W0 = w.alloc (.cells #[.slice A n c, .slice A' n' c', .slice D m' e] 28)) := ⟨_, rfl⟩
  have X : Hid (Ext w W0) := by rw [hW0.out]; exact Ext.alloc w _
  have B0 : Hid (Blk W0 w.heap.size #[.slice A n c, .slice A' n' c', .slice D m' e] 28) := by rw [hW0.out]; exact Blk.new rfl _ _
  have cBn : ∀ i, (w.alloc (.cells #[.slice A n c, .slice A' n' c', .slice D m' e] 28)).cell? ⟨w.heap.size, i, none⟩ = #[Value.slice A n c, .slice A' n' c', .slice D m' e][i]? := by rw [← hW0.out]; exact B0.out.cell
  go_enter Try.func44, Try.ntmps44
  go_wp2
  rw [← hW0.out]
  clear hW0 cBn
  go_loopw [7] (fun ix0 wr => ∃ (j : Nat), j ≤ m' ∧ ix0 = .int .i64 ((j : Int) - 1) ∧ revF (d.2.2.take j) ix kx Q = C ∧ Blk wr w.heap.size #[.slice A n c, .slice A' n' c', .slice D m' e] 28 ∧ Ext w wr) (fun ix0 _ => (intOf ix0 + 1).toNat)
  case atStart => exact ⟨m', Nat.le_refl _, rfl, by rw [List.take_of_length_le (by rw [hm'.out]; exact Nat.le_refl _)]; exact CE.out, B0.out, X.out⟩
  case round =>
    obtain ⟨j, hj, rfl, hcj, hb0, hx⟩ := hrel
    clear B0 X
    have HC := hide hcj
    have B0 := hide hb0
    have X := hide hx
    clear hb0 hx hcj
    have cB := B0.out.cell
    by_cases hltj : 0 < j
    · obtain ⟨j1, hj1⟩ : ∃ j1, j = j1 + 1 := ⟨j - 1, by omega⟩
      subst hj1
      have ej : ((j1 + 1 : Nat) : Int) - 1 = (j1 : Int) := by omega
      rw [ej]
      clear ej
      obtain ⟨x, hxk⟩ : ∃ x, Hid (d.2.2[j1]? = some x) := ⟨_, List.getElem?_eq_getElem (by rw [hm'.out]; omega)⟩
      obtain ⟨b, off, rfl, hb, q0, q1, q2⟩ := (H3.out.ext X.out (Nat.le_refl _)).review j1 x hxk.out
      have RS := hide (revF_step hxk.out ix kx Q)
      have RA := hide (show rvAt ix kx x = ((x.1 == (ix : Int)) && (x.2.1 == (kx : Int))) from rfl)
      have x1 := fun o => Ext.alloc wr o
      generalize x.1 = r1 at *
      generalize x.2.1 = r2 at *
      generalize x.2.2 = r3 at *
      rw [RS.out] at HC
      clear RS
      replace X := hide (X.out.trans (x1 (.cells #[.int .i64 r1, .int .i64 r2, .int .i64 r3] 30)))
      replace B0 := hide (B0.out.ext (x1 (.cells #[.int .i64 r1, .int .i64 r2, .int .i64 r3] 30)))
      clear x1
      have w1 : IntKind.i64.wrap ((j1 : Int) - 1) = (j1 : Int) - 1 := IntWalk.i64_in _ (by omega)
      by_cases e1 : r1 = (ix : Int)
      · have b1 : (r1 == (ix : Int)) = true := by simp [e1]
        by_cases e2 : r2 = (kx : Int)
        · have b2 : (r2 == (kx : Int)) = true := by simp [e2]
          rw [if_pos (by rw [RA.out, b1, b2]; rfl)] at HC
          clear e1 e2
          go_wp2
          go_ret
          exact ⟨ret_int HC.out, X.out⟩
        · have b2 : (r2 == (kx : Int)) = false := by simp [e2]
          rw [if_neg (by rw [RA.out, b1, b2]; simp)] at HC
          clear e1 e2
          go_wp2
          go_roundw
          case rel => exact ⟨j1, by omega, by go_num, HC.out, B0.out, X.out⟩
          case measure => simp [intOf] <;> omega
      · have b1 : (r1 == (ix : Int)) = false := by simp [e1]
        rw [if_neg (by rw [RA.out, b1]; simp)] at HC
        clear e1
        go_wp2
        go_roundw
        case rel => exact ⟨j1, by omega, by go_num, HC.out, B0.out, X.out⟩
        case measure => simp [intOf] <;> omega
    · have ej : j = 0 := by omega
      subst ej
      have QC : Hid (Q = C) := HC.out
      clear HC CE
      go_wp2
      clear cB
      go_loopw [9] (fun mk wr => ∃ (q : Nat), q ≤ 4 ∧ mk = .int .i64 q ∧ (∀ j : Nat, j < q → ¬ 2 ≤ countV d.2.1 ix kx (j : Int)) ∧ Blk wr w.heap.size #[.slice A n c, .slice A' n' c', .slice D m' e] 28 ∧ Ext w wr) (fun mk _ => 4 - (intOf mk).toNat)
      case atStart => exact ⟨0, Nat.zero_le _, rfl, fun j hj => by omega, B0.out, X.out⟩
      case round =>
        obtain ⟨q, hq, rfl, hno, hb0, hx⟩ := hrel
        clear B0 X
        have HNO := hide hno
        have B0 := hide hb0
        have X := hide hx
        clear hb0 hx hno
        have cB := B0.out.cell
        by_cases hlt : q < 4
        · go_wp2
          go_loopw [10, 45] (fun ct ix0 wq => ∃ (j : Nat), j ≤ n' ∧ ix0 = .int .i64 j ∧ ct = .int .i64 (countV (d.2.1.take j) ix kx (q : Int)) ∧ wq = wr) (fun _ ix0 _ => n' - (intOf ix0).toNat)
          case atStart => exact ⟨0, Nat.zero_le _, rfl, rfl, rfl⟩
          case round =>
            obtain ⟨j, hj, rfl, rfl, rfl⟩ := hrel
            have hcj := countV_le (d.2.1.take j) ix kx (q : Int)
            rw [List.length_take] at hcj
            by_cases hltj : j < n'
            · obtain ⟨x, hxk⟩ : ∃ x, Hid (d.2.1[j]? = some x) := ⟨_, List.getElem?_eq_getElem (by rw [hn'.out]; exact hltj)⟩
              obtain ⟨b, off, Ak, ck, rfl, hb, hck, hrk⟩ := (H2.out.ext X.out (Nat.le_refl _)).voteS j x hxk.out
              obtain ⟨v1, v2, v3, v4⟩ := VR.out j x hxk.out
              have z1 := hrk.1; have z2 := hrk.2.1
              obtain ⟨b5, off5, A3, c3, b6, off6, rfl, p1, rfl, p2, z3, z4⟩ := vote_cells hrk v1 v3
              have CS := hide (countV_succ hxk.out ix kx (q : Int))
              clear hrk
              generalize hvt : voteAt x ix kx = vt at *
              generalize (x.getD ix []).length = m9 at *
              generalize x.length = m8 at *
              clear hvt
              generalize hct : countV (List.take j d.2.1) ix kx (q : Int) = ct at *
              by_cases hq9 : vt = (q : Int)
              · have b1 : (vt == (q : Int)) = true := by simp [hq9]
                replace CS : Hid (countV (List.take (j + 1) d.2.1) ix kx (q : Int) = ct + 1) := by show _ = _; rw [CS.out, if_pos b1]
                clear hq9
                go_wp2
                go_roundw
                case rel => exact ⟨j + 1, by omega, by go_num, by rw [CS.out]; go_num, trivial⟩
                case measure => simp [intOf]; omega
              · have b1 : (vt == (q : Int)) = false := by simp [hq9]
                replace CS : Hid (countV (List.take (j + 1) d.2.1) ix kx (q : Int) = ct) := by show _ = _; rw [CS.out, if_neg (by simp [b1])]; rfl
                clear hq9
                go_wp2
                go_roundw
                case rel => exact ⟨j + 1, by omega, by go_num, by rw [CS.out], trivial⟩
                case measure => simp [intOf]; omega
            · have ej : n' = j := by omega
              subst ej
              rw [List.take_of_length_le (by rw [hn'.out]; exact Nat.le_refl _)] at *
              have CU := hide (show voteUp d.2.1 ix kx (q + 1) = if 2 ≤ countV d.2.1 ix kx (q : Int) then (q : Int) else voteUp d.2.1 ix kx q from rfl)
              by_cases h2 : 2 ≤ countV d.2.1 ix kx (q : Int)
              · have CF : Hid (C = (q : Int)) := by show _ = _; rw [← QC.out, ← hQ.out]; exact voteF_first hlt HNO.out h2
                generalize countV d.2.1 ix kx (q : Int) = ct at *
                have h2' : (2 : Int) ≤ (ct : Int) := by omega
                clear CU
                go_wp2
                go_ret
                exact ⟨ret_int CF.out.symm, X.out⟩
              · have HN2 : Hid (∀ j : Nat, j < q + 1 → ¬ 2 ≤ countV d.2.1 ix kx (j : Int)) := fun j hj => by
                  by_cases hjq : j < q
                  · exact HNO.out j hjq
                  · obtain rfl : j = q := by omega
                    exact h2
                clear CU
                generalize countV d.2.1 ix kx (q : Int) = ct at *
                have h2' : ¬ (2 : Int) ≤ (ct : Int) := by omega
                go_wp2
                go_roundw
                case rel => exact ⟨q + 1, by omega, by go_num, HN2.out, B0.out, X.out⟩
                case measure => simp [intOf]; omega
        · have e4 : q = 4 := by omega
          subst e4
          have CF : Hid (C = -1) := by show _ = _; rw [← QC.out, ← hQ.out]; exact voteF_none HNO.out
          go_wp2
          go_ret
          exact ⟨ret_int CF.out.symm, X.out⟩
end Go.Proofs.Ytofmfagdaiphaaa
