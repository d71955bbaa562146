/- Dissents. -/
import Derived.Test.YtigfhllnfgfdoaaOQ
import Derived.Test.YtigfhllnfgfdoaaTB
import Derived.Deep.RegionHeld3
namespace Go.Proofs.Ytigfhllnfgfdoaa
open Go.RowKit Go.Sort
set_option linter.unusedVariables false

def dissB (vt C : Int) : Bool := decide (0 ≤ vt) && decide (0 ≤ C) && (vt != C)
def dissP (d : ShD) (v : List (List Int)) (i k : Nat) : Bool := dissB (voteAt v i k) (callF d i k)
def dissN (d : ShD) (v : List (List Int)) : Int := ((pairs (dissP d v) d.1).length : Int)
def dissF (d : ShD) : List Int × Bool := if sheetB d then (d.2.1.map (dissN d), true) else ([], false)

set_option maxRecDepth 100000 in
set_option maxHeartbeats 4000000 in
theorem diss1_any (w : World) (gv g : Nat) (d : ShD) (x : List (List Int)) (ix kx : Nat) (A A' D Ax : Option Addr) (n c n' c' m' e cx : Nat) (hbv : Blk w gv #[.slice Ax x.length cx] 54) (hrx : LR kdL w w.heap.size Ax cx x) (hxm : x ∈ d.2.1) (hb0 : Blk w g #[.slice A n c, .slice A' n' c', .slice D m' e] 32) (h : kSh.rd w (.agg #[.slice A n c, .slice A' n' c', .slice D m' e]) d) (hok : kSh.ok d) (hs : sheetB d = true) (hi : ix < d.1.length) (hk : kx < (namesAt d.1 ix).length) :
    Calls Try.prog 88 #[.int .i64 ix, .int .i64 kx, .pointer (some ⟨gv, 0, none⟩), .pointer (some ⟨g, 0, none⟩)] w fun e w' => e = .returned (.bool (dissP d x ix kx)) ∧ Ext w w' := by
  obtain ⟨e1, e2⟩ := sheetB_rows hs hxm
  have e3 := e2 ix hi
  have k2 : d.1.length ≤ 14 := by simp [sheetB, cleanB, itemsB] at hs; omega
  have k4 := names_three (show itemsB d.1 = true by simp only [sheetB, cleanB, Bool.and_eq_true] at hs; exact hs.1.1.1.1.1) ix
  have CALL := hide (i.callOf_m w.drew _ d ix kx (kSh.rd_ext h (Ext.drew w)) hok hs hi hk)
  have z1 := hrx.1; have z2 := hrx.2.1
  have v1 : ix < x.length := by omega
  have v3 : kx < (x.getD ix []).length := by omega
  have v4 : (x.getD ix []).length ≤ 3 := by omega
  have v5 : x.length ≤ 14 := by omega
  obtain ⟨b5, off5, A3, c3, b6, off6, rfl, p1, rfl, p2, z3, z4⟩ := vote_cells hrx v1 v3
  have lt5 : b5 < w.heap.size := World.block_lt_of_cell? w _ p1
  have lt6 : b6 < w.heap.size := World.block_lt_of_cell? w _ p2
  have hP : Hid (dissP d x ix kx = dissB (voteAt x ix kx) (callF d ix kx)) := rfl
  rw [hP.out]
  have cV := hbv.cell 0
  have cB := hb0.cell
  have ltv := hbv.lt
  have ltg := hb0.lt
  clear hrx hxm h hs e2 e3 hbv hb0 hi hk k4 hP e1 k2
  generalize voteAt x ix kx = vt at *
  generalize callF d ix kx = C at *
  generalize (x.getD ix []).length = m9 at *
  generalize x.length = m8 at *
  have i1 : (ix : Int) < m8 := by omega
  have i2 : (kx : Int) < m9 := by omega
  have P1 := hide p1
  have P2 := hide p2
  have CV := hide cV
  have CB := hide cB
  go_enter Try.func88, Try.ntmps88
  go_wp2
  go_region_held3 (fun w' => w'.cell? ⟨gv, 0, none⟩ = some (Value.slice (some ⟨b5, off5, none⟩) m8 cx) ∧ w'.cell? ⟨b5, off5 + ix, none⟩ = some (.slice (some ⟨b6, off6, none⟩) m9 c3) ∧ w'.cell? ⟨b6, off6 + kx, none⟩ = some (.int .i64 vt) ∧ ∀ i, w'.cell? ⟨g, i, none⟩ = #[Value.slice A n c, .slice A' n' c', .slice D m' e][i]?)
    (first | exact ⟨(Y2.out.cell ltv).trans CV.out, (Y2.out.cell lt5).trans P1.out, (Y2.out.cell lt6).trans P2.out, fun i => (Y2.out.cell ltg).trans (CB.out i)⟩ | exact ⟨CV.out, P1.out, P2.out, CB.out⟩)
    (first | (go_at_call 75; refine CALL.out.mono ?_; rintro e1 w2 ⟨rfl, x2⟩; have Y2 := hide ((Ext.drew w).trans x2); clear x2))
  all_goals
    by_cases h1 : 0 ≤ vt
    · by_cases h2 : 0 ≤ C
      · by_cases h3 : vt = C
        · have b1 : (vt != C) = false := by simp [h3]
          have HF : Hid (dissB vt C = false) := by show _ = _; simp [dissB, b1]
          clear h3
          go_wp2
          go_ret
          exact ⟨ret_bool HF.out.symm, Y2.out⟩
        · have b1 : (vt != C) = true := by simp [h3]
          have HF : Hid (dissB vt C = true) := by show _ = _; simp [dissB, b1, h1, h2]
          clear h3
          go_wp2
          go_ret
          exact ⟨ret_bool HF.out.symm, Y2.out⟩
      · have HF : Hid (dissB vt C = false) := by show _ = _; simp [dissB, h2]
        go_wp2
        go_ret
        exact ⟨ret_bool HF.out.symm, Y2.out⟩
    · have HF : Hid (dissB vt C = false) := by show _ = _; simp [dissB, h1]
      go_wp2
      go_ret
      exact ⟨ret_bool HF.out.symm, Y2.out⟩

theorem Blk.apdS {e : TypeId} {w w' : World} {lo n' c' g : Nat} {A A' : Option Addr} {vs' : List Value} {cs : Array Value} {t : TypeId} (h : Blk w g cs t) (ha : Apd e w lo A w' A' n' c' vs') (hne : ∀ p, A = some p → p.block ≠ g) : Blk w' g cs t :=
  h.tchF (TchF.of_grown (fp := (A.map (·.block)).toList) ha.grew (fun p hp => by subst hp; simp)) fun hm => by
    cases A with
    | none => simp at hm
    | some a => simp at hm; exact hne a rfl hm.symm

set_option maxRecDepth 100000 in
set_option maxHeartbeats 4000000 in
theorem i.Dissents_law (w : World) (v : Value) (d : ShD) (h : kSh.rd w v d) (hok : kSh.ok d) :
    Calls Try.prog 33 #[v] w fun e w' => ∃ v0, e = .returned (.tuple #[v0, .bool (dissF d).2]) ∧ kI.fr w' w.heap.size w'.heap.size v0 (dissF d).1 ∧ kI.ok (dissF d).1 ∧ Ext w w' := by
  obtain ⟨A, c, A', c', D, e, rfl, h1, h2, h3⟩ := kSh.lr h
  have hok' : kdSh.wt d ≤ 1048576 := hok
  rw [kdSh.wt_eq] at hok'
  have hw1 : wtL kdItem d.1 ≤ 1048576 := by have : kdItS.wt d.1 = wtL kdItem d.1 := rfl; omega
  have k1 := wtL_len kdItem d.1
  have a1 := h1.1; have a2 := h1.2.1
  have HR := hide h
  have H1 := hide h1
  have HW1 := hide hw1
  have hn0 : d.1.length ≤ 1048576 := by omega
  clear h h1 h2 h3 hok' hw1 k1
  obtain ⟨n, hn⟩ : ∃ n, Hid (d.1.length = n) := ⟨_, rfl⟩
  obtain ⟨n', hn'⟩ : ∃ n', Hid (d.2.1.length = n') := ⟨_, rfl⟩
  obtain ⟨m', hm'⟩ : ∃ n', Hid (d.2.2.length = n') := ⟨_, rfl⟩
  rw [hn.out] at a1 hn0
  rw [hn.out, hn'.out, hm'.out] at HR ⊢
  obtain ⟨W0, hW0⟩ : ∃ W0, Hid (W0 = w.alloc (.cells #[.slice A n c, .slice A' n' c', .slice D m' e] 32)) := ⟨_, rfl⟩
  have X : Hid (Ext w W0) := by rw [hW0.out]; exact Ext.alloc w _
  have B0 : Hid (Blk W0 w.heap.size #[.slice A n c, .slice A' n' c', .slice D m' e] 32) := by rw [hW0.out]; exact Blk.new rfl _ _
  obtain ⟨H2x, H2⟩ : ∃ q, Hid (LR kdLL w w.heap.size A' c' d.2.1) ∧ q = 0 := by
    obtain ⟨A1, c1, A2, c2, D1, e1, he, h1, h2, h3⟩ := kSh.lr HR.out
    simp only [Value.agg.injEq, Array.mk.injEq, List.cons.injEq, Value.slice.injEq, and_true] at he
    obtain ⟨⟨rfl, _, rfl⟩, ⟨rfl, _, rfl⟩, ⟨rfl, _, rfl⟩⟩ := he
    exact ⟨0, h2, rfl⟩
  replace H2 := H2.1
  have a3 := H2.out.1; have a4 := H2.out.2.1
  rw [hn'.out] at a3
  obtain ⟨F, hF⟩ : ∃ F, Hid (dissF d = F) := ⟨_, rfl⟩
  rw [hF.out]
  go_enter Try.func33, Try.ntmps33
  go_wp2_with fail
  rw [← hW0.out]
  clear hW0
  refine (i.IsSheet_m _ _ d (kSh.rd_ext HR.out X.out) hok).mono ?_
  rintro e1 w1 ⟨rfl, x1⟩
  replace X := hide (X.out.trans x1)
  replace B0 := hide (B0.out.ext x1)
  clear x1
  have cB := B0.out.cell
  cases hs : sheetB d
  · have HF : Hid (F = ([], false)) := by show _ = _; rw [← hF.out]; simp [dissF, hs]
    clear hs
    go_wp2
    go_ret2
    rw [HF.out]
    exact ⟨_, rfl, ⟨none, 0, rfl, OwnI.nil, Nat.le_refl _, fun p hp => by cases hp⟩, Nat.zero_le _, X.out⟩
  have HS := hide hs
  have HF : Hid (F = (d.2.1.map (dissN d), true)) := by show _ = _; rw [← hF.out]; simp [dissF, hs]
  have hit : itemsB d.1 = true := by simp only [sheetB, cleanB, Bool.and_eq_true] at hs; exact hs.1.1.1.1.1
  have HIT := hide hit
  have hv3 := sheetB_votes hs
  rw [hn'.out] at hv3
  have n3 : n' ≤ 3 ∧ 3 ≤ n' := by omega
  clear hs hit hF hv3
  have hmf : ∀ (fn : Fn) (first cap : Array Value) (w : World), (Instr.makeFunc fn first cap).run Try.prog w = .ok (.func fn first cap) w := fun _ _ _ _ => rfl
  have z1 : w.heap.size < w1.heap.size := B0.out.lt
  have cBa := (B0.out.alloc (.cells #[] 3)).cell
  have B0a := hide (B0.out.alloc (.cells #[] 3))
  have X0a := hide (X.out.trans (Ext.alloc w1 (.cells #[] 3)))
  have O0 : Hid (OwnI 3 (w1.alloc (.cells #[] 3)) (w.heap.size + 1) (some ⟨w1.heap.size, 0, none⟩) 0 0 []) := Own.empty w1 3 (by omega)
  go_wp2
  clear cB cBa
  go_loopw [4, 14] (fun o i0 wr => ∃ (j : Nat) (A1 : Option Addr) (c1 : Nat), j ≤ n' ∧ i0 = .int .i64 j ∧ o = .slice A1 j c1 ∧ OwnI 3 wr (w.heap.size + 1) A1 j c1 ((d.2.1.take j).map (dissN d)) ∧ Blk wr w.heap.size #[.slice A n c, .slice A' n' c', .slice D m' e] 32 ∧ Ext w wr) (fun _ i0 _ => n' - (intOf i0).toNat)
  case atStart => exact ⟨0, _, _, Nat.zero_le _, rfl, rfl, O0.out, B0a.out, X0a.out⟩
  case round =>
    obtain ⟨j, A1, c1, hj, rfl, rfl, ho, hb0, hx⟩ := hrel
    clear B0 X
    have O1 := hide ho
    have B0 := hide hb0
    have X := hide hx
    clear ho hb0 hx
    have cB := B0.out.cell
    have oc1 := O1.out.capn; have oc2 := O1.out.capm
    by_cases hltj : j < n'
    · obtain ⟨x, hxk⟩ : ∃ x, Hid (d.2.1[j]? = some x) := ⟨_, List.getElem?_eq_getElem (by rw [hn'.out]; exact hltj)⟩
      obtain ⟨b, off, Ak, ck, hA', hb, hck, hrk⟩ := (H2.out.ext X.out (Nat.le_refl _)).voteS j x hxk.out
      have HA' := hide hA'
      have sz := X.out.size
      obtain ⟨W3, hW3⟩ : ∃ W3, Hid (W3 = wr.alloc (.cells #[.slice Ak x.length ck] 54)) := ⟨_, rfl⟩
      have x3 : Ext wr W3 := by rw [hW3.out]; exact Ext.alloc _ _
      have BV : Hid (Blk W3 wr.heap.size #[.slice Ak x.length ck] 54) := by rw [hW3.out]; exact Blk.new rfl _ _
      have HRK := hide (hrk.ext x3 (by omega))
      have z4 := hrk.1; have z5 := hrk.2.1
      replace O1 := hide (O1.out.below x3 (Nat.le_refl _))
      replace B0 := hide (B0.out.ext x3)
      have cB3 := B0.out.cell
      rw [hW3.out] at cB3
      replace X := hide (X.out.trans x3)
      have sz3 := x3.size
      have NWH := namesDiss (.pointer (some ⟨wr.heap.size, 0, none⟩)) (.pointer (some ⟨w.heap.size, 0, none⟩)) (dissP d x) W3 A c w.heap.size d.1 (H1.out.ext X.out (Nat.le_refl _)) X.out.size HIT.out
        (fun w' ix kx x' hi hk => diss1_any w' wr.heap.size w.heap.size d x ix kx A A' D Ak n c n' c' m' e ck (BV.out.ext x') ((HRK.out.ext x' (by have := X.out.size; omega)).more (by have := x'.size; have := X.out.size; omega)) (List.mem_of_getElem? hxk.out) (B0.out.ext x') (kSh.rd_ext HR.out (X.out.trans x')) hok HS.out hi hk)
      rw [hn.out] at NWH
      have NH := hide NWH
      clear NWH hrk x3
      have TK : Hid ((d.2.1.take (j + 1)).map (dissN d) = (d.2.1.take j).map (dissN d) ++ [dissN d x]) := by
        obtain ⟨hk', e⟩ := List.getElem?_eq_some_iff.1 hxk.out
        show _ = _
        rw [List.take_succ_eq_append_getElem hk', List.map_append, e]
        rfl
      have DN : Hid (dissN d x = ((pairs (dissP d x) d.1).length : Int)) := rfl
      generalize x.length = m8 at *
      subst hA'
      go_wp2_with fail
      rw [← hW3.out]
      clear hW3 cB cB3
      refine NH.out.mono ?_
      rintro e1 w4 ⟨A9, c9, fp, rfl, hl, hf, x4⟩
      have hcap := hl.cap
      replace X := hide (X.out.trans x4)
      replace O1 := hide (O1.out.below x4 (Nat.le_refl _))
      replace B0 := hide (B0.out.ext x4)
      have sz4 := X.out.size
      clear hl hf x4 NH
      generalize (pairs (dissP d x) d.1).length = L at *
      go_wp2_with (at_builtin; refine wpList_append_sl rfl (.tmp 18) (.tmp 24) rfl elem_int rfl rfl (Own.alloc O1.out _) (Sl.one w4 (.int .i64 L) 3) (one_int L) ?c1 ?c2 ?c3 ?_)
      case c1 => omega
      case c2 => omega
      case c3 => have := B0.out.lt; simp; omega
      intro A2 c2 w5 hap
      have HAP := hide hap
      clear hap
      go_wp2
      go_roundw
      case rel =>
        exact ⟨j + 1, A2, c2, by omega, by go_num, rfl, own_conv HAP.out.own (Nat.le_refl _) rfl (by rw [TK.out, DN.out]; simp), (B0.out.alloc _).apdS HAP.out (fun p hp => by have := Own.fromLo O1.out p hp; omega), HAP.out.ext (X.out.trans (Ext.alloc _ _)) (fun p hp => by have := Own.fromLo O1.out p hp; omega)⟩
      case measure => simp [intOf]; omega
    · have ek : n' = j := by omega
      replace O1 : Hid (OwnI 3 wr (w.heap.size + 1) A1 j c1 (d.2.1.map (dissN d))) := by have h8 := O1.out; rwa [List.take_of_length_le (by rw [hn'.out]; omega)] at h8
      have hl0 := O1.out.len
      have HL0 := hide hl0
      clear hl0
      go_wp2
      go_ret2
      rw [HF.out]
      refine ⟨_, rfl, ⟨A1, c1, by rw [HL0.out]; rfl, ?_⟩, ?_, X.out⟩
      · rw [HL0.out]
        exact (O1.out.lower (by omega)).fr
      · show (d.2.1.map (dissN d)).length ≤ 1048576
        rw [HL0.out]; omega

/-- The first j numbers, then zeros. -/
def dJ (full : List Int) (j : Nat) : List Int := full.take j ++ List.replicate (3 - j) 0
theorem dJ_len {full : List Int} (h : full.length = 3) {j : Nat} (hj : j ≤ 3) : (dJ full j).length = 3 := by simp [dJ]; omega
theorem dJ_at {full : List Int} (h : full.length = 3) {j : Nat} (hj : j < 3) : (dJ full j)[j]? = some 0 := by
  have e : (full.take j).length = j := by simp; omega
  unfold dJ
  rw [List.getElem?_append_right (by omega), e, Nat.sub_self, List.getElem?_replicate, if_pos (by omega)]
theorem dJ_zero {full : List Int} (h : full.length = 3) {j : Nat} (hj : j < 3) : (dJ full j).set j 0 = dJ full j := by
  obtain ⟨h1, h2⟩ := List.getElem?_eq_some_iff.1 (dJ_at h hj)
  conv => lhs; rw [← h2]
  exact List.set_getElem_self h1
theorem dJ_step {full : List Int} (h : full.length = 3) {j : Nat} (hj : j < 3) {z : Int} (hz : full[j]? = some z) : (dJ full j).set j z = dJ full (j + 1) := by
  obtain ⟨h1, rfl⟩ := List.getElem?_eq_some_iff.1 hz
  have e : (full.take j).length = j := by simp; omega
  have e2 : 3 - j = (3 - (j + 1)) + 1 := by omega
  unfold dJ
  rw [List.set_append_right _ _ (by omega), e, Nat.sub_self, e2, List.replicate_succ, List.set_cons_zero, List.take_succ_eq_append_getElem h1, List.append_assoc]
  rfl

set_option maxRecDepth 100000 in
set_option maxHeartbeats 8000000 in
theorem s.Dissents_law (w : World) (v : Value) (d : ShD) (h : kSh.rd w v d) (hok : kSh.ok d) :
    Calls Try.prog 32 #[v] w fun e w' => ∃ v0, e = .returned (.tuple #[v0, .bool (dissF d).2]) ∧ kI.fr w' w.heap.size w'.heap.size v0 (dissF d).1 ∧ kI.ok (dissF d).1 ∧ Ext w w' := by
  obtain ⟨A, c, A', c', D, e, rfl, h1, h2, h3⟩ := kSh.lr h
  have hok' : kdSh.wt d ≤ 1048576 := hok
  rw [kdSh.wt_eq] at hok'
  have hw1 : wtL kdItem d.1 ≤ 1048576 := by have : kdItS.wt d.1 = wtL kdItem d.1 := rfl; omega
  have k1 := wtL_len kdItem d.1
  have a1 := h1.1; have a2 := h1.2.1
  have HR := hide h
  have H1 := hide h1
  have HW1 := hide hw1
  have hn0 : d.1.length ≤ 1048576 := by omega
  clear h h1 h2 h3 hok' hw1 k1
  obtain ⟨n, hn⟩ : ∃ n, Hid (d.1.length = n) := ⟨_, rfl⟩
  obtain ⟨n', hn'⟩ : ∃ n', Hid (d.2.1.length = n') := ⟨_, rfl⟩
  obtain ⟨m', hm'⟩ : ∃ n', Hid (d.2.2.length = n') := ⟨_, rfl⟩
  rw [hn.out] at a1 hn0
  rw [hn.out, hn'.out, hm'.out] at HR ⊢
  obtain ⟨W0, hW0⟩ : ∃ W0, Hid (W0 = w.alloc (.cells #[.slice A n c, .slice A' n' c', .slice D m' e] 32)) := ⟨_, rfl⟩
  have X : Hid (Ext w W0) := by rw [hW0.out]; exact Ext.alloc w _
  have B0 : Hid (Blk W0 w.heap.size #[.slice A n c, .slice A' n' c', .slice D m' e] 32) := by rw [hW0.out]; exact Blk.new rfl _ _
  obtain ⟨H2x, H2⟩ : ∃ q, Hid (LR kdLL w w.heap.size A' c' d.2.1) ∧ q = 0 := by
    obtain ⟨A1, c1, A2, c2, D1, e1, he, h1, h2, h3⟩ := kSh.lr HR.out
    simp only [Value.agg.injEq, Array.mk.injEq, List.cons.injEq, Value.slice.injEq, and_true] at he
    obtain ⟨⟨rfl, _, rfl⟩, ⟨rfl, _, rfl⟩, ⟨rfl, _, rfl⟩⟩ := he
    exact ⟨0, h2, rfl⟩
  replace H2 := H2.1
  have a3 := H2.out.1; have a4 := H2.out.2.1
  rw [hn'.out] at a3
  obtain ⟨F, hF⟩ : ∃ F, Hid (dissF d = F) := ⟨_, rfl⟩
  rw [hF.out]
  obtain ⟨i0, hi0, hz0, hz1, hz2⟩ := info_parts info_int
  have HI0 := hide hi0; have HZ0 := hide hz0; have HZ1 := hide hz1; have HZ2 := hide hz2
  clear hi0 hz0 hz1 hz2
  go_enter Try.func32, Try.ntmps32
  go_wp2_with fail
  rw [← hW0.out]
  clear hW0
  refine (s.caGood_m _ _ d (kSh.rd_ext HR.out X.out) hok).mono ?_
  rintro e1 w1 ⟨rfl, x1⟩
  replace X := hide (X.out.trans x1)
  replace B0 := hide (B0.out.ext x1)
  clear x1
  have cB := B0.out.cell
  cases hs : sheetB d
  · have HF : Hid (F = ([], false)) := by show _ = _; rw [← hF.out]; simp [dissF, hs]
    clear hs
    go_wp2
    go_ret2
    rw [HF.out]
    exact ⟨_, rfl, ⟨none, 0, rfl, OwnI.nil, Nat.le_refl _, fun p hp => by cases hp⟩, Nat.zero_le _, X.out⟩
  have HS := hide hs
  have HF : Hid (F = (d.2.1.map (dissN d), true)) := by show _ = _; rw [← hF.out]; simp [dissF, hs]
  have hit : itemsB d.1 = true := by simp only [sheetB, cleanB, Bool.and_eq_true] at hs; exact hs.1.1.1.1.1
  have N3 := hide (names_three hit)
  have n14 : d.1.length ≤ 14 := by simp [itemsB] at hit; omega
  rw [hn.out] at n14
  have hv3 := sheetB_votes hs
  have FL : Hid ((d.2.1.map (dissN d)).length = 3) := by show _ = _; rw [List.length_map]; exact hv3
  obtain ⟨full, hfull⟩ : ∃ full, Hid (d.2.1.map (dissN d) = full) := ⟨_, rfl⟩
  rw [hfull.out] at FL HF
  have FA : Hid (∀ (j : Nat) (x : List (List Int)), d.2.1[j]? = some x → full[j]? = some (dissN d x)) := fun j x hx => by rw [← hfull.out, List.getElem?_map, hx]; rfl
  have SR : Hid (∀ (j : Nat) (x : List (List Int)), d.2.1[j]? = some x → x.length = n ∧ ∀ (i : Nat) (l : List Int), x[i]? = some l → l.length = (namesAt d.1 i).length ∧ ∀ k, voteAt x i k = l.getD k 0) := fun j x hx => by
    obtain ⟨e1, e2⟩ := sheetB_rows HS.out (List.mem_of_getElem? hx)
    rw [hn.out] at e1 e2
    refine ⟨e1, fun i l hl => ?_⟩
    have hi := (List.getElem?_eq_some_iff.1 hl).1
    have e3 := e2 i (by omega)
    rw [List.getD_eq_getElem?_getD, hl] at e3
    exact ⟨by simpa using e3, fun k => by unfold voteAt; rw [List.getD_eq_getElem?_getD (l := x), hl]; rfl⟩
  rw [hn'.out] at hv3
  have n3 : n' ≤ 3 ∧ 3 ≤ n' := by omega
  clear hs hit hF hv3 hfull
  have z1 : w.heap.size < w1.heap.size := B0.out.lt
  go_wp2_with (at_make; refine wpList_make_full _ rfl _ _ _ rfl (w.heap.size + 1) 3 i0 _ 1 Try.underlying49 HI0.out HZ0.out HZ1.out _ _ _ _ 3 rfl rfl rfl rfl ?c1 ?c2 ?c3 ?_)
  case c1 => rw [HZ2.out]; omega
  case c2 => unfold maxLen; omega
  case c3 => exact z1
  intro w2 hown hgrow
  have hb1 : Ext w1 w2 := (Ext.refl w1).grown hgrow (Nat.le_refl _) (by simp)
  have O1 : Hid (OwnI 3 w2 (w.heap.size + 1) (some ⟨w1.heap.size, 0, none⟩) 3 3 (dJ full 0)) := by
    have e : dJ full 0 = List.replicate 3 0 := by simp [dJ]
    show OwnI _ _ _ _ _ _ _
    rw [e]
    rw [toList_madeCells_one] at hown
    exact hown
  replace X := hide (X.out.trans hb1)
  replace B0 := hide (B0.out.ext hb1)
  clear hown hgrow hb1 cB
  generalize w1.heap.size = g1 at *
  have cB := B0.out.cell
  go_wp2
  clear cB
  go_loopw [19] (fun i5 wr => ∃ (j : Nat), j ≤ n' ∧ i5 = .int .i64 j ∧ OwnI 3 wr (w.heap.size + 1) (some ⟨g1, 0, none⟩) 3 3 (dJ full j) ∧ Blk wr w.heap.size #[.slice A n c, .slice A' n' c', .slice D m' e] 32 ∧ Ext w wr) (fun i5 _ => n' - (intOf i5).toNat)
  case atStart => exact ⟨0, Nat.zero_le _, rfl, O1.out, B0.out, X.out⟩
  case round =>
    obtain ⟨j, hj, rfl, ho, hb0, hx⟩ := hrel
    clear B0 X O1
    have O1 := hide ho
    have B0 := hide hb0
    have X := hide hx
    clear ho hb0 hx
    by_cases hltj : j < n'
    · obtain ⟨x, hxk⟩ : ∃ x, Hid (d.2.1[j]? = some x) := ⟨_, List.getElem?_eq_getElem (by rw [hn'.out]; exact hltj)⟩
      have j3 : j < 3 := by omega
      obtain ⟨b, off, Ak, ck, hA', hb, hck, hrk⟩ := (H2.out.ext X.out (Nat.le_refl _)).voteS j x hxk.out
      have HX2 : Hid (∀ (wq : World), Ext w wq → LR kdL wq w.heap.size Ak ck x) := fun wq xq => by
        obtain ⟨b', off', Ak', ck', hA2, hb2, hck2, hrk2⟩ := (H2.out.ext xq (Nat.le_refl _)).voteS j x hxk.out
        rw [hA'] at hA2
        simp only [Option.some.injEq, Addr.mk.injEq, and_true] at hA2
        obtain ⟨rfl, rfl⟩ := hA2
        have e9 := (xq.cell (p := ⟨b, off + j, none⟩) hb).symm.trans hck2 |>.symm.trans ((X.out.cell (p := ⟨b, off + j, none⟩) hb).symm.trans hck)
        simp only [Option.some.injEq, Value.slice.injEq, true_and] at e9
        obtain ⟨rfl, rfl⟩ := e9
        exact hrk2
      obtain ⟨hxn, hxr⟩ := SR.out j x hxk.out
      have XR := hide hxr
      have z4 := hrk.1; have z5 := hrk.2.1
      have ST := hide (dJ_step FL.out j3 (FA.out j x hxk.out))
      have DZ := hide (dJ_zero FL.out j3)
      have DL := hide (dJ_len FL.out (Nat.le_of_lt j3))
      have DN : Hid (dissN d x = ((pairs (dissP d x) d.1).length : Int)) := rfl
      have CL := hide (fun (wq : World) (ix kx : Nat) (xq : Ext w wq) (hi : ix < d.1.length) (hk : kx < (namesAt d.1 ix).length) => s.caCall_m wq _ d ix kx (kSh.rd_ext HR.out xq) hok HS.out hi hk)
      rw [hn.out] at CL
      rw [hxn] at hck z4
      clear hrk hxr
      obtain ⟨Ps, hPs⟩ : ∃ P, Hid (P = dissP d x) := ⟨_, rfl⟩
      rw [← hPs.out] at DN
      generalize hDj : dJ full j = dj at *
      clear hDj
      subst hA'
      go_wp2
      go_loopw [26] (fun i5 wr => ∃ (ix : Nat), ix ≤ n ∧ i5 = .int .i64 ix ∧ OwnI 3 wr (w.heap.size + 1) (some ⟨g1, 0, none⟩) 3 3 (dj.set j ((pairsN Ps d.1 ix).length : Int)) ∧ Blk wr w.heap.size #[.slice A n c, .slice (some ⟨b, off, none⟩) n' c', .slice D m' e] 32 ∧ Ext w wr) (fun i5 _ => n - (intOf i5).toNat)
      case atStart => exact ⟨0, Nat.zero_le _, rfl, by show OwnI _ _ _ _ _ _ (dj.set j 0); rw [DZ.out]; exact O1.out, B0.out, X.out⟩
      case round =>
        obtain ⟨ix, hix, rfl, ho, hb0, hx⟩ := hrel
        clear B0 X O1
        have O1 := hide ho
        have B0 := hide hb0
        have X := hide hx
        clear ho hb0 hx
        by_cases hlti : ix < n
        · obtain ⟨l, hlk⟩ : ∃ l, Hid (x[ix]? = some l) := ⟨_, List.getElem?_eq_getElem (by omega)⟩
          obtain ⟨b6, off6, A3, c3, hA6, hb6, q3, r3⟩ := (HX2.out wr X.out).rowS ix l hlk.out
          obtain ⟨hln, hlv⟩ := XR.out ix l hlk.out
          have l3 := N3.out ix
          have y3 := r3.1; have y4 := r3.2.1
          have PS := hide (pairsN_succ Ps d.1 ix)
          have ln := pairsN_len Ps d.1 N3.out ix
          have CK := hide (fun (wq : World) (kx : Nat) (xq : Ext w wq) (hk : kx < (namesAt d.1 ix).length) => CL.out wq ix kx xq hlti hk)
          have HLV : Hid (∀ kx, Ps ix kx = dissB (l.getD kx 0) (callF d ix kx)) := fun kx => by rw [hPs.out, dissP, hlv kx]
          rw [← hln] at l3 PS CK
          have SL : Hid (∀ wq : World, Ext w wq → SlI wq w.heap.size A3 l.length l) := fun wq xq => by
            obtain ⟨b7, off7, A4, c4, hA7, hb7, q7, r7⟩ := (HX2.out wq xq).rowS ix l hlk.out
            rw [hA6] at hA7
            simp only [Option.some.injEq, Addr.mk.injEq, and_true] at hA7
            obtain ⟨rfl, rfl⟩ := hA7
            have e9 := (xq.cell (p := ⟨b6, off6 + ix, none⟩) hb6).symm.trans q7 |>.symm.trans ((X.out.cell (p := ⟨b6, off6 + ix, none⟩) hb6).symm.trans q3)
            simp only [Option.some.injEq, Value.slice.injEq, true_and] at e9
            obtain ⟨rfl, rfl⟩ := e9
            exact r7.sl
          clear r3 hln hlv
          obtain ⟨m, hm⟩ : ∃ m, Hid (l.length = m) := ⟨_, rfl⟩
          rw [hm.out] at l3 PS CK q3 y3 SL
          generalize hpl : pairsN Ps d.1 ix = pl at *
          clear hpl
          subst hA6
          go_wp2
          go_loopw [33] (fun i5 wr => ∃ (kx : Nat), kx ≤ m ∧ i5 = .int .i64 kx ∧ OwnI 3 wr (w.heap.size + 1) (some ⟨g1, 0, none⟩) 3 3 (dj.set j ((pl ++ rowP Ps ix kx).length : Int)) ∧ Blk wr w.heap.size #[.slice A n c, .slice (some ⟨b, off, none⟩) n' c', .slice D m' e] 32 ∧ Ext w wr) (fun i5 _ => m - (intOf i5).toNat)
          case atStart => exact ⟨0, Nat.zero_le _, rfl, by simpa [rowP] using O1.out, B0.out, X.out⟩
          case round =>
            obtain ⟨kx, hkx, rfl, ho, hb0, hx⟩ := hrel
            clear B0 X O1
            have O1 := hide ho
            have B0 := hide hb0
            have X := hide hx
            clear ho hb0 hx
            by_cases hltk : kx < m
            · obtain ⟨b8, off8, hA8, hb8, hc8⟩ := (SL.out wr X.out).cells (by omega)
              have q8 := hc8 kx hltk
              have CC := hide (CK.out wr kx X.out hltk)
              have RS := hide (rowP_succ Ps ix kx)
              have rl := rowP_len Ps ix kx
              have PV := hide (HLV.out kx)
              have LN : (pl ++ rowP Ps ix kx).length ≤ 100 := by rw [List.length_append]; omega
              generalize hpr : pl ++ rowP Ps ix kx = pr at *
              have HPR := hide hpr
              clear hpr rl hc8
              generalize callF d ix kx = C at *
              generalize l.getD kx 0 = vt at *
              obtain ⟨L, hL⟩ : ∃ L, Hid (pr.length = L) := ⟨_, rfl⟩
              rw [hL.out] at O1 LN
              have cB := B0.out.cell
              subst hA8
              go_wp2_with fail
              clear cB
              refine CC.out.mono ?_
              rintro e1 w5 ⟨rfl, x5⟩
              replace X := hide (X.out.trans x5)
              replace O1 := hide (O1.out.below x5 (Nat.le_refl _))
              replace B0 := hide (B0.out.ext x5)
              clear x5 CC
              have oc := O1.out.cell j (by omega)
              have og : (dj.set j (L : Int)).getD j 0 = L := by rw [List.getD_eq_getElem?_getD, List.getElem?_set, if_pos rfl, if_pos (by rw [DL.out]; omega)]; rfl
              rw [og] at oc
              have of_ := O1.out.free j
              clear og
              have NO : Hid (dissB vt C = false → (dj.set j ((pl ++ rowP Ps ix (kx + 1)).length : Int)) = dj.set j (L : Int)) := fun h8 => by
                rw [RS.out, PV.out, h8, ← hL.out, ← HPR.out]; simp
              have YES : Hid (dissB vt C = true → (dj.set j ((pl ++ rowP Ps ix (kx + 1)).length : Int)) = dj.set j ((L : Int) + 1)) := fun h8 => by
                rw [RS.out, PV.out, h8, ← hL.out, ← HPR.out]; simp; congr 1 <;> omega
              have wl : IntKind.i64.wrap ((L : Int) + 1) = (L : Int) + 1 := IntWalk.i64_in _ (by omega)
              have O2 := hide (O1.out.set j ((L : Int) + 1))
              rw [List.set_set] at O2
              have gl : w.heap.size + 1 ≤ g1 := by have := Own.fromLo O1.out ⟨g1, 0, none⟩ rfl; exact this
              by_cases h1 : 0 ≤ vt
              · by_cases h2 : 0 ≤ C
                · by_cases h3 : vt = C
                  · have b1 : (vt != C) = false := by simp [h3]
                    have HF9 := hide (NO.out (by simp [dissB, b1]))
                    clear h3
                    go_wp2
                    go_roundw
                    case rel => exact ⟨kx + 1, by omega, by go_num, by rw [HF9.out]; exact O1.out, B0.out, X.out⟩
                    case measure => simp [intOf]; omega
                  · have b1 : (vt != C) = true := by simp [h3]
                    have HF9 := hide (YES.out (by simp [dissB, b1, h1, h2]))
                    clear h3
                    go_wp2
                    go_roundw
                    case rel => exact ⟨kx + 1, by omega, by go_num, by rw [HF9.out]; exact O2.out, B0.out.far (by show w.heap.size ≠ g1; omega) _, Below.setCell X.out (by show w.heap.size ≤ g1; omega) _⟩
                    case measure => simp [intOf]; omega
                · have HF9 := hide (NO.out (by simp [dissB, h2]))
                  go_wp2
                  go_roundw
                  case rel => exact ⟨kx + 1, by omega, by go_num, by rw [HF9.out]; exact O1.out, B0.out, X.out⟩
                  case measure => simp [intOf]; omega
              · have HF9 := hide (NO.out (by simp [dissB, h1]))
                go_wp2
                go_roundw
                case rel => exact ⟨kx + 1, by omega, by go_num, by rw [HF9.out]; exact O1.out, B0.out, X.out⟩
                case measure => simp [intOf]; omega
            · have ek : m = kx := by omega
              subst ek
              rw [← PS.out] at O1
              go_wp2
              go_roundw
              case rel => exact ⟨ix + 1, by omega, by go_num, O1.out, B0.out, X.out⟩
              case measure => simp [intOf]; omega
        · have ek : n = ix := by omega
          have OE : Hid (OwnI 3 wr (w.heap.size + 1) (some ⟨g1, 0, none⟩) 3 3 (dJ full (j + 1))) := by
            have h8 := O1.out
            have e8 : ((pairsN Ps d.1 ix).length : Int) = dissN d x := by rw [DN.out, pairs, hn.out, ek]
            rw [e8, ST.out] at h8
            exact h8
          clear ek
          go_wp2
          go_roundw
          case rel => exact ⟨j + 1, by omega, by go_num, OE.out, B0.out, X.out⟩
          case measure => simp [intOf]; omega
    · have ek : j = 3 := by omega
      have OE : Hid (OwnI 3 wr (w.heap.size + 1) (some ⟨g1, 0, none⟩) 3 3 full) := by
        have h8 := O1.out
        rw [ek] at h8
        have e8 : dJ full 3 = full := by unfold dJ; rw [List.take_of_length_le (by rw [FL.out]; exact Nat.le_refl _)]; simp
        rwa [e8] at h8
      clear ek
      go_wp2
      go_ret2
      rw [HF.out]
      refine ⟨_, rfl, ⟨some ⟨g1, 0, none⟩, 3, by rw [FL.out]; rfl, ?_⟩, ?_, X.out⟩
      · rw [FL.out]
        exact (OE.out.lower (by omega)).fr
      · show full.length ≤ 1048576
        rw [FL.out]; omega
end Go.Proofs.Ytigfhllnfgfdoaa
