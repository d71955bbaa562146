/- GC: OG, OR, OS, OT, QA, QB, QC, JM, JN in one text. -/
import Derived.Test.YtofmfagdaiphaaaOF
import Derived.Test.YtofmfagdaiphaaaOQ
import Derived.Test.YtofmfagdaiphaaaGA
import Derived.Deep.RegionHeld3
import Derived.BigQuiet
import Derived.Test.YtofmfagdaiphaaaGQ
import Derived.Test.YtofmfagdaiphaaaJG
import Derived.Test.YtofmfagdaiphaaaJH
import Derived.Test.YtofmfagdaiphaaaSF
import Derived.Test.YtofmfagdaiphaaaJK
import Derived.Test.YtofmfagdaiphaaaGN
/- IsFinal: the laws. -/
namespace Go.Proofs.Ytofmfagdaiphaaa
open Go.RowKit Go.Sort
set_option linter.unusedVariables false

set_option maxRecDepth 100000 in
set_option maxHeartbeats 4000000 in
theorem i.IsFinal_law (w : World) (v : Value) (d : ShD) (h : kSh.rd w v d) (hok : kSh.ok d) :
    Calls Try.prog 23 #[v] w fun e w' => e = .returned (.tuple #[.bool (finalF d).1, .bool (finalF d).2]) ∧ Ext w w' := by
  obtain ⟨A, c, A', c', D, e, rfl, h1, h2, h3⟩ := kSh.lr h
  have hok' : kdSh.wt d ≤ 1048576 := hok
  rw [kdSh.wt_eq] at hok'
  have hw1 : wtL kdItem d.1 ≤ 1048576 := by have : kdItS.wt d.1 = wtL kdItem d.1 := rfl; omega
  have k1 := wtL_len kdItem d.1
  have a1 := h1.1; have a2 := h1.2.1
  have HR := hide h
  have H1 := hide h1
  have HW1 := hide hw1
  have hn0 : d.1.length ≤ 1048576 := by omega
  clear h h1 h2 h3 hok' hw1 k1
  obtain ⟨n, hn⟩ : ∃ n, Hid (d.1.length = n) := ⟨_, rfl⟩
  obtain ⟨n', hn'⟩ : ∃ n', Hid (d.2.1.length = n') := ⟨_, rfl⟩
  obtain ⟨m', hm'⟩ : ∃ n', Hid (d.2.2.length = n') := ⟨_, rfl⟩
  rw [hn.out] at a1 hn0
  rw [hn.out, hn'.out, hm'.out] at HR ⊢
  obtain ⟨W0, hW0⟩ : ∃ W0, Hid (W0 = w.alloc (.cells #[.slice A n c, .slice A' n' c', .slice D m' e] 28)) := ⟨_, rfl⟩
  have X : Hid (Ext w W0) := by rw [hW0.out]; exact Ext.alloc w _
  have B0 : Hid (Blk W0 w.heap.size #[.slice A n c, .slice A' n' c', .slice D m' e] 28) := by rw [hW0.out]; exact Blk.new rfl _ _
  obtain ⟨F, hF⟩ : ∃ F, Hid (finalF d = F) := ⟨_, rfl⟩
  rw [hF.out]
  go_enter Try.func23, Try.ntmps23
  go_wp2_with fail
  rw [← hW0.out]
  clear hW0
  refine (i.IsSheet_m _ _ d (kSh.rd_ext HR.out X.out) hok).mono ?_
  rintro e1 w1 ⟨rfl, x1⟩
  replace X := hide (X.out.trans x1)
  replace B0 := hide (B0.out.ext x1)
  clear x1
  have cB := B0.out.cell
  cases hs : sheetB d
  · have HF : Hid (F = (false, false)) := by show _ = _; rw [← hF.out]; simp [finalF, hs]
    clear hs
    go_wp2
    go_ret2
    rw [HF.out]
    exact ⟨rfl, X.out⟩
  have HS := hide hs
  have HF : Hid (F = (((pairs (missP d) d.1).length : Int) == 0, true)) := by show _ = _; rw [← hF.out]; simp [finalF, hs]
  have hit : itemsB d.1 = true := by simp only [sheetB, cleanB, Bool.and_eq_true] at hs; exact hs.1.1.1.1.1
  have HIT := hide hit
  have hv3 := sheetB_votes hs
  clear hs hit hF
  have hmf : ∀ (fn : Fn) (first cap : Array Value) (w : World), (Instr.makeFunc fn first cap).run Try.prog w = .ok (.func fn first cap) w := fun _ _ _ _ => rfl
  have NWH := namesFinal (.pointer (some ⟨w.heap.size, 0, none⟩)) undef (missP d) w1 A c w.heap.size d.1 (H1.out.ext X.out (Nat.le_refl _)) X.out.size HIT.out
    (fun w' ix kx x' hi hk => final1_any w' w.heap.size d ix kx A A' D n c n' c' m' e (B0.out.ext x') (kSh.rd_ext HR.out (X.out.trans x')) hok HS.out hi hk)
  rw [hn.out] at NWH
  have NH := hide NWH
  clear NWH hv3
  go_wp2_with fail
  refine NH.out.mono ?_
  rintro e1 w2 ⟨A9, c9, fp, rfl, hl, hf, x2⟩
  replace X := hide (X.out.trans x2)
  have hcap := hl.cap
  clear hl hf x2 cB
  generalize (pairs (missP d) d.1).length = L at *
  go_wp2
  go_ret2
  rw [HF.out]
  exact ⟨rfl, X.out⟩

set_option maxRecDepth 100000 in
set_option maxHeartbeats 4000000 in
theorem s.IsFinal_law (w : World) (v : Value) (d : ShD) (h : kSh.rd w v d) (hok : kSh.ok d) :
    Calls Try.prog 24 #[v] w fun e w' => e = .returned (.tuple #[.bool (finalF d).1, .bool (finalF d).2]) ∧ Ext w w' := by
  obtain ⟨A, c, A', c', D, e, rfl, h1, h2, h3⟩ := kSh.lr h
  have hok' : kdSh.wt d ≤ 1048576 := hok
  rw [kdSh.wt_eq] at hok'
  have hw1 : wtL kdItem d.1 ≤ 1048576 := by have : kdItS.wt d.1 = wtL kdItem d.1 := rfl; omega
  have k1 := wtL_len kdItem d.1
  have a1 := h1.1; have a2 := h1.2.1
  have HR := hide h
  have H1 := hide h1
  have HW1 := hide hw1
  have hn0 : d.1.length ≤ 1048576 := by omega
  clear h h1 h2 h3 hok' hw1 k1
  obtain ⟨n, hn⟩ : ∃ n, Hid (d.1.length = n) := ⟨_, rfl⟩
  obtain ⟨n', hn'⟩ : ∃ n', Hid (d.2.1.length = n') := ⟨_, rfl⟩
  obtain ⟨m', hm'⟩ : ∃ n', Hid (d.2.2.length = n') := ⟨_, rfl⟩
  rw [hn.out] at a1 hn0
  rw [hn.out, hn'.out, hm'.out] at HR ⊢
  obtain ⟨W0, hW0⟩ : ∃ W0, Hid (W0 = w.alloc (.cells #[.slice A n c, .slice A' n' c', .slice D m' e] 28)) := ⟨_, rfl⟩
  have X : Hid (Ext w W0) := by rw [hW0.out]; exact Ext.alloc w _
  have B0 : Hid (Blk W0 w.heap.size #[.slice A n c, .slice A' n' c', .slice D m' e] 28) := by rw [hW0.out]; exact Blk.new rfl _ _
  obtain ⟨F, hF⟩ : ∃ F, Hid (finalF d = F) := ⟨_, rfl⟩
  rw [hF.out]
  go_enter Try.func24, Try.ntmps24
  go_wp2_with fail
  rw [← hW0.out]
  clear hW0
  refine (s.caGood_m _ _ d (kSh.rd_ext HR.out X.out) hok).mono ?_
  rintro e1 w1 ⟨rfl, x1⟩
  replace X := hide (X.out.trans x1)
  replace B0 := hide (B0.out.ext x1)
  clear x1
  have cB := B0.out.cell
  cases hs : sheetB d
  · have HF : Hid (F = (false, false)) := by show _ = _; rw [← hF.out]; simp [finalF, hs]
    clear hs
    go_wp2
    go_ret2
    rw [HF.out]
    exact ⟨rfl, X.out⟩
  have HS := hide hs
  have HF : Hid (F = (((pairs (missP d) d.1).length : Int) == 0, true)) := by show _ = _; rw [← hF.out]; simp [finalF, hs]
  have hit : itemsB d.1 = true := by simp only [sheetB, cleanB, Bool.and_eq_true] at hs; exact hs.1.1.1.1.1
  have HIT := hide hit
  have hv3 := sheetB_votes hs
  clear hs hit hF
  have FE := hide (final_eq HS.out)
  replace HF : Hid (F = (!badV d && (((pairs (openP d) d.1).length : Int) == 0), true)) := by show _ = _; rw [HF.out, FE.out]
  have HBAD : Hid (∀ (j : Nat) (x : List (List Int)), d.2.1[j]? = some x → x.any (fun l => l.any (fun z => z == -1)) = true → F = (false, true)) := fun j x hx h8 => by
    rw [HF.out, show badV d = true from List.any_eq_true.2 ⟨x, List.mem_of_getElem? hx, h8⟩]; rfl
  obtain ⟨H2x, H2⟩ : ∃ q, Hid (LR kdLL w w.heap.size A' c' d.2.1) ∧ q = 0 := by
    obtain ⟨A1, c1, A2, c2, D1, e1, he, h1, h2, h3⟩ := kSh.lr HR.out
    simp only [Value.agg.injEq, Array.mk.injEq, List.cons.injEq, Value.slice.injEq, and_true] at he
    obtain ⟨⟨rfl, _, rfl⟩, ⟨rfl, _, rfl⟩, ⟨rfl, _, rfl⟩⟩ := he
    exact ⟨0, h2, rfl⟩
  replace H2 := H2.1
  have a3 := H2.out.1; have a4 := H2.out.2.1
  have WR : Hid (∀ (j : Nat) (x : List (List Int)), d.2.1[j]? = some x → x.length ≤ 14 ∧ ∀ (i : Nat) (l : List Int), x[i]? = some l → l.length ≤ 3) := fun j x hx => by
    obtain ⟨e1, e2⟩ := sheetB_rows HS.out (List.mem_of_getElem? hx)
    have k2 : d.1.length ≤ 14 := by have := HIT.out; simp [itemsB] at this; omega
    refine ⟨by omega, fun i l hl => ?_⟩
    have hi := (List.getElem?_eq_some_iff.1 hl).1
    have e3 := e2 i (by omega)
    rw [List.getD_eq_getElem?_getD, hl] at e3
    have := names_three HIT.out i
    simp at e3
    omega
  rw [hn'.out] at hv3 a3
  have n3 : n' ≤ 3 ∧ 3 ≤ n' := by omega
  clear hv3
  go_wp2
  clear cB
  go_loopw [14] (fun i0 wq => ∃ (j : Nat), j ≤ n' ∧ i0 = .int .i64 j ∧ (d.2.1.take j).any (fun v => v.any (fun l => l.any (fun z => z == -1))) = false ∧ wq = w1) (fun i0 _ => n' - (intOf i0).toNat)
  case atStart => exact ⟨0, Nat.zero_le _, rfl, rfl, rfl⟩
  case round =>
    obtain ⟨j, hj, rfl, hno, rfl⟩ := hrel
    have HNO := hide hno
    clear hno
    have cB := B0.out.cell
    by_cases hltj : j < n'
    · obtain ⟨x, hxk⟩ : ∃ x, Hid (d.2.1[j]? = some x) := ⟨_, List.getElem?_eq_getElem (by rw [hn'.out]; exact hltj)⟩
      obtain ⟨b, off, Ak, ck, rfl, hb, hck, hrk⟩ := (H2.out.ext X.out (Nat.le_refl _)).voteS j x hxk.out
      obtain ⟨x14, xr⟩ := WR.out j x hxk.out
      have XR := hide xr
      have z1 := hrk.1; have z2 := hrk.2.1
      have HK := hide hrk
      have BAD := hide (HBAD.out j x hxk.out)
      have STEP : Hid (x.any (fun l => l.any (fun z => z == -1)) = false → (d.2.1.take (j + 1)).any (fun v => v.any (fun l => l.any (fun z => z == -1))) = false) := fun h8 => by
        obtain ⟨hk', e⟩ := List.getElem?_eq_some_iff.1 hxk.out
        rw [List.take_succ_eq_append_getElem hk', List.any_append, HNO.out, e]
        simpa using h8
      clear hrk xr
      obtain ⟨q, hq⟩ : ∃ q, Hid (x.length = q) := ⟨_, rfl⟩
      rw [hq.out] at hck z1 x14
      go_wp2
      go_loopw [20] (fun i0 wq => ∃ (k : Nat), k ≤ q ∧ i0 = .int .i64 k ∧ (x.take k).any (fun l => l.any (fun z => z == -1)) = false ∧ wq = wr) (fun i0 _ => q - (intOf i0).toNat)
      case atStart => exact ⟨0, Nat.zero_le _, rfl, rfl, rfl⟩
      case round =>
        obtain ⟨k, hk5, rfl, hno5, rfl⟩ := hrel
        have HN5 := hide hno5
        clear hno5
        by_cases hltk : k < q
        · obtain ⟨l, hlk⟩ : ∃ l, Hid (x[k]? = some l) := ⟨_, List.getElem?_eq_getElem (by rw [hq.out]; exact hltk)⟩
          obtain ⟨b6, off6, A3, c3, rfl, hb6, q3, r3⟩ := HK.out.rowS k l hlk.out
          have hl3 := XR.out k l hlk.out
          have LH := hide (s.l1Has_any A3 l.length c3 w.heap.size l (-1) _ r3.sl (by omega))
          have S1 : Hid (l.any (fun z => z == -1) = true → F = (false, true)) := fun h8 => BAD.out (List.any_eq_true.2 ⟨l, List.mem_of_getElem? hlk.out, h8⟩)
          have S2 : Hid (l.any (fun z => z == -1) = false → (x.take (k + 1)).any (fun l => l.any (fun z => z == -1)) = false) := fun h8 => by
            obtain ⟨hk', e⟩ := List.getElem?_eq_some_iff.1 hlk.out
            rw [List.take_succ_eq_append_getElem hk', List.any_append, HN5.out, e]
            simpa using h8
          clear r3
          generalize l.length = m9 at *
          cases hb9 : l.any (fun z => z == -1)
          · have HF9 := hide (S2.out hb9)
            rw [hb9] at LH
            clear hb9
            go_wp2_with (go_at_call 64; refine LH.out.mono ?_; rintro e1 w' ⟨rfl, rfl⟩)
            go_roundw
            case rel => exact ⟨k + 1, by omega, by go_num, HF9.out, trivial⟩
            case measure => simp [intOf]; omega
          · have HF9 := hide (S1.out hb9)
            rw [hb9] at LH
            clear hb9
            go_wp2_with (go_at_call 64; refine LH.out.mono ?_; rintro e1 w' ⟨rfl, rfl⟩)
            go_ret2
            rw [HF9.out]
            exact ⟨rfl, X.out⟩
        · have HF9 := hide (STEP.out (by have h8 := HN5.out; rwa [List.take_of_length_le (by rw [hq.out]; omega)] at h8))
          go_wp2
          go_roundw
          case rel => exact ⟨j + 1, by omega, by go_num, HF9.out, trivial⟩
          case measure => simp [intOf]; omega
    · have HB : Hid (badV d = false) := by have h8 := HNO.out; rwa [List.take_of_length_le (by rw [hn'.out]; omega)] at h8
      replace HF : Hid (F = (((pairs (openP d) d.1).length : Int) == 0, true)) := by show _ = _; rw [HF.out, HB.out]; rfl
      go_wp2_with fail
      refine (s.caOpen_m _ _ d (kSh.rd_ext HR.out X.out) hok HS.out).mono ?_
      rintro e1 w2 ⟨A9, c9, fp, rfl, hl, hf, x2⟩
      replace X := hide (X.out.trans x2)
      have hcap := hl.cap
      clear hl hf x2 cB
      generalize (pairs (openP d) d.1).length = L at *
      go_wp2
      go_ret2
      rw [HF.out]
      exact ⟨rfl, X.out⟩
end Go.Proofs.Ytofmfagdaiphaaa

/- Dissents. -/
namespace Go.Proofs.Ytofmfagdaiphaaa
open Go.RowKit Go.Sort
set_option linter.unusedVariables false

def dissB (vt C : Int) : Bool := decide (0 ≤ vt) && decide (0 ≤ C) && (vt != C)
def dissP (d : ShD) (v : List (List Int)) (i k : Nat) : Bool := dissB (voteAt v i k) (callF d i k)
def dissN (d : ShD) (v : List (List Int)) : Int := ((pairs (dissP d v) d.1).length : Int)
def dissF (d : ShD) : List Int × Bool := if sheetB d then (d.2.1.map (dissN d), true) else ([], false)

set_option maxRecDepth 100000 in
set_option maxHeartbeats 4000000 in
theorem diss1_any (w : World) (gv g : Nat) (d : ShD) (x : List (List Int)) (ix kx : Nat) (A A' D Ax : Option Addr) (n c n' c' m' e cx : Nat) (hbv : Blk w gv #[.slice Ax x.length cx] 43) (hrx : LR kdL w w.heap.size Ax cx x) (hxm : x ∈ d.2.1) (hb0 : Blk w g #[.slice A n c, .slice A' n' c', .slice D m' e] 28) (h : kSh.rd w (.agg #[.slice A n c, .slice A' n' c', .slice D m' e]) d) (hok : kSh.ok d) (hs : sheetB d = true) (hi : ix < d.1.length) (hk : kx < (namesAt d.1 ix).length) :
    Calls Try.prog 65 #[.int .i64 ix, .int .i64 kx, .pointer (some ⟨gv, 0, none⟩), .pointer (some ⟨g, 0, none⟩)] w fun e w' => e = .returned (.bool (dissP d x ix kx)) ∧ Ext w w' := by
  obtain ⟨e1, e2⟩ := sheetB_rows hs hxm
  have e3 := e2 ix hi
  have k2 : d.1.length ≤ 14 := by simp [sheetB, cleanB, itemsB] at hs; omega
  have k4 := names_three (show itemsB d.1 = true by simp only [sheetB, cleanB, Bool.and_eq_true] at hs; exact hs.1.1.1.1.1) ix
  have CALL := hide (i.callOf_m w.drew _ d ix kx (kSh.rd_ext h (Ext.drew w)) hok hs hi hk)
  have z1 := hrx.1; have z2 := hrx.2.1
  have v1 : ix < x.length := by omega
  have v3 : kx < (x.getD ix []).length := by omega
  have v4 : (x.getD ix []).length ≤ 3 := by omega
  have v5 : x.length ≤ 14 := by omega
  obtain ⟨b5, off5, A3, c3, b6, off6, rfl, p1, rfl, p2, z3, z4⟩ := vote_cells hrx v1 v3
  have lt5 : b5 < w.heap.size := World.block_lt_of_cell? w _ p1
  have lt6 : b6 < w.heap.size := World.block_lt_of_cell? w _ p2
  have hP : Hid (dissP d x ix kx = dissB (voteAt x ix kx) (callF d ix kx)) := rfl
  rw [hP.out]
  have cV := hbv.cell 0
  have cB := hb0.cell
  have ltv := hbv.lt
  have ltg := hb0.lt
  clear hrx hxm h hs e2 e3 hbv hb0 hi hk k4 hP e1 k2
  generalize voteAt x ix kx = vt at *
  generalize callF d ix kx = C at *
  generalize (x.getD ix []).length = m9 at *
  generalize x.length = m8 at *
  have i1 : (ix : Int) < m8 := by omega
  have i2 : (kx : Int) < m9 := by omega
  have P1 := hide p1
  have P2 := hide p2
  have CV := hide cV
  have CB := hide cB
  go_enter Try.func65, Try.ntmps65
  go_wp2
  go_region_held3 (fun w' => w'.cell? ⟨gv, 0, none⟩ = some (Value.slice (some ⟨b5, off5, none⟩) m8 cx) ∧ w'.cell? ⟨b5, off5 + ix, none⟩ = some (.slice (some ⟨b6, off6, none⟩) m9 c3) ∧ w'.cell? ⟨b6, off6 + kx, none⟩ = some (.int .i64 vt) ∧ ∀ i, w'.cell? ⟨g, i, none⟩ = #[Value.slice A n c, .slice A' n' c', .slice D m' e][i]?)
    (first | exact ⟨(Y2.out.cell ltv).trans CV.out, (Y2.out.cell lt5).trans P1.out, (Y2.out.cell lt6).trans P2.out, fun i => (Y2.out.cell ltg).trans (CB.out i)⟩ | exact ⟨CV.out, P1.out, P2.out, CB.out⟩)
    (first | (go_at_call 44; refine CALL.out.mono ?_; rintro e1 w2 ⟨rfl, x2⟩; have Y2 := hide ((Ext.drew w).trans x2); clear x2))
  all_goals
    by_cases h1 : 0 ≤ vt
    · by_cases h2 : 0 ≤ C
      · by_cases h3 : vt = C
        · have b1 : (vt != C) = false := by simp [h3]
          have HF : Hid (dissB vt C = false) := by show _ = _; simp [dissB, b1]
          clear h3
          go_wp2
          go_ret
          exact ⟨ret_bool HF.out.symm, Y2.out⟩
        · have b1 : (vt != C) = true := by simp [h3]
          have HF : Hid (dissB vt C = true) := by show _ = _; simp [dissB, b1, h1, h2]
          clear h3
          go_wp2
          go_ret
          exact ⟨ret_bool HF.out.symm, Y2.out⟩
      · have HF : Hid (dissB vt C = false) := by show _ = _; simp [dissB, h2]
        go_wp2
        go_ret
        exact ⟨ret_bool HF.out.symm, Y2.out⟩
    · have HF : Hid (dissB vt C = false) := by show _ = _; simp [dissB, h1]
      go_wp2
      go_ret
      exact ⟨ret_bool HF.out.symm, Y2.out⟩

theorem Blk.apdS {e : TypeId} {w w' : World} {lo n' c' g : Nat} {A A' : Option Addr} {vs' : List Value} {cs : Array Value} {t : TypeId} (h : Blk w g cs t) (ha : Apd e w lo A w' A' n' c' vs') (hne : ∀ p, A = some p → p.block ≠ g) : Blk w' g cs t :=
  h.tchF (TchF.of_grown (fp := (A.map (·.block)).toList) ha.grew (fun p hp => by subst hp; simp)) fun hm => by
    cases A with
    | none => simp at hm
    | some a => simp at hm; exact hne a rfl hm.symm

set_option maxRecDepth 100000 in
set_option maxHeartbeats 4000000 in
theorem i.Dissents_law (w : World) (v : Value) (d : ShD) (h : kSh.rd w v d) (hok : kSh.ok d) :
    Calls Try.prog 25 #[v] w fun e w' => ∃ v0, e = .returned (.tuple #[v0, .bool (dissF d).2]) ∧ kI.fr w' w.heap.size w'.heap.size v0 (dissF d).1 ∧ kI.ok (dissF d).1 ∧ Ext w w' := by
  obtain ⟨A, c, A', c', D, e, rfl, h1, h2, h3⟩ := kSh.lr h
  have hok' : kdSh.wt d ≤ 1048576 := hok
  rw [kdSh.wt_eq] at hok'
  have hw1 : wtL kdItem d.1 ≤ 1048576 := by have : kdItS.wt d.1 = wtL kdItem d.1 := rfl; omega
  have k1 := wtL_len kdItem d.1
  have a1 := h1.1; have a2 := h1.2.1
  have HR := hide h
  have H1 := hide h1
  have HW1 := hide hw1
  have hn0 : d.1.length ≤ 1048576 := by omega
  clear h h1 h2 h3 hok' hw1 k1
  obtain ⟨n, hn⟩ : ∃ n, Hid (d.1.length = n) := ⟨_, rfl⟩
  obtain ⟨n', hn'⟩ : ∃ n', Hid (d.2.1.length = n') := ⟨_, rfl⟩
  obtain ⟨m', hm'⟩ : ∃ n', Hid (d.2.2.length = n') := ⟨_, rfl⟩
  rw [hn.out] at a1 hn0
  rw [hn.out, hn'.out, hm'.out] at HR ⊢
  obtain ⟨W0, hW0⟩ : ∃ W0, Hid (W0 = w.alloc (.cells #[.slice A n c, .slice A' n' c', .slice D m' e] 28)) := ⟨_, rfl⟩
  have X : Hid (Ext w W0) := by rw [hW0.out]; exact Ext.alloc w _
  have B0 : Hid (Blk W0 w.heap.size #[.slice A n c, .slice A' n' c', .slice D m' e] 28) := by rw [hW0.out]; exact Blk.new rfl _ _
  obtain ⟨H2x, H2⟩ : ∃ q, Hid (LR kdLL w w.heap.size A' c' d.2.1) ∧ q = 0 := by
    obtain ⟨A1, c1, A2, c2, D1, e1, he, h1, h2, h3⟩ := kSh.lr HR.out
    simp only [Value.agg.injEq, Array.mk.injEq, List.cons.injEq, Value.slice.injEq, and_true] at he
    obtain ⟨⟨rfl, _, rfl⟩, ⟨rfl, _, rfl⟩, ⟨rfl, _, rfl⟩⟩ := he
    exact ⟨0, h2, rfl⟩
  replace H2 := H2.1
  have a3 := H2.out.1; have a4 := H2.out.2.1
  rw [hn'.out] at a3
  obtain ⟨F, hF⟩ : ∃ F, Hid (dissF d = F) := ⟨_, rfl⟩
  rw [hF.out]
  go_enter Try.func25, Try.ntmps25
  go_wp2_with fail
  rw [← hW0.out]
  clear hW0
  refine (i.IsSheet_m _ _ d (kSh.rd_ext HR.out X.out) hok).mono ?_
  rintro e1 w1 ⟨rfl, x1⟩
  replace X := hide (X.out.trans x1)
  replace B0 := hide (B0.out.ext x1)
  clear x1
  have cB := B0.out.cell
  cases hs : sheetB d
  · have HF : Hid (F = ([], false)) := by show _ = _; rw [← hF.out]; simp [dissF, hs]
    clear hs
    go_wp2
    go_ret2
    rw [HF.out]
    exact ⟨_, rfl, ⟨none, 0, rfl, OwnI.nil, Nat.le_refl _, fun p hp => by cases hp⟩, Nat.zero_le _, X.out⟩
  have HS := hide hs
  have HF : Hid (F = (d.2.1.map (dissN d), true)) := by show _ = _; rw [← hF.out]; simp [dissF, hs]
  have hit : itemsB d.1 = true := by simp only [sheetB, cleanB, Bool.and_eq_true] at hs; exact hs.1.1.1.1.1
  have HIT := hide hit
  have hv3 := sheetB_votes hs
  rw [hn'.out] at hv3
  have n3 : n' ≤ 3 ∧ 3 ≤ n' := by omega
  clear hs hit hF hv3
  have hmf : ∀ (fn : Fn) (first cap : Array Value) (w : World), (Instr.makeFunc fn first cap).run Try.prog w = .ok (.func fn first cap) w := fun _ _ _ _ => rfl
  have z1 : w.heap.size < w1.heap.size := B0.out.lt
  have cBa := (B0.out.alloc (.cells #[] 3)).cell
  have B0a := hide (B0.out.alloc (.cells #[] 3))
  have X0a := hide (X.out.trans (Ext.alloc w1 (.cells #[] 3)))
  have O0 : Hid (OwnI 3 (w1.alloc (.cells #[] 3)) (w.heap.size + 1) (some ⟨w1.heap.size, 0, none⟩) 0 0 []) := Own.empty w1 3 (by omega)
  go_wp2
  clear cB cBa
  go_loopw [4, 14] (fun o i0 wr => ∃ (j : Nat) (A1 : Option Addr) (c1 : Nat), j ≤ n' ∧ i0 = .int .i64 j ∧ o = .slice A1 j c1 ∧ OwnI 3 wr (w.heap.size + 1) A1 j c1 ((d.2.1.take j).map (dissN d)) ∧ Blk wr w.heap.size #[.slice A n c, .slice A' n' c', .slice D m' e] 28 ∧ Ext w wr) (fun _ i0 _ => n' - (intOf i0).toNat)
  case atStart => exact ⟨0, _, _, Nat.zero_le _, rfl, rfl, O0.out, B0a.out, X0a.out⟩
  case round =>
    obtain ⟨j, A1, c1, hj, rfl, rfl, ho, hb0, hx⟩ := hrel
    clear B0 X
    have O1 := hide ho
    have B0 := hide hb0
    have X := hide hx
    clear ho hb0 hx
    have cB := B0.out.cell
    have oc1 := O1.out.capn; have oc2 := O1.out.capm
    by_cases hltj : j < n'
    · obtain ⟨x, hxk⟩ : ∃ x, Hid (d.2.1[j]? = some x) := ⟨_, List.getElem?_eq_getElem (by rw [hn'.out]; exact hltj)⟩
      obtain ⟨b, off, Ak, ck, hA', hb, hck, hrk⟩ := (H2.out.ext X.out (Nat.le_refl _)).voteS j x hxk.out
      have HA' := hide hA'
      have sz := X.out.size
      obtain ⟨W3, hW3⟩ : ∃ W3, Hid (W3 = wr.alloc (.cells #[.slice Ak x.length ck] 43)) := ⟨_, rfl⟩
      have x3 : Ext wr W3 := by rw [hW3.out]; exact Ext.alloc _ _
      have BV : Hid (Blk W3 wr.heap.size #[.slice Ak x.length ck] 43) := by rw [hW3.out]; exact Blk.new rfl _ _
      have HRK := hide (hrk.ext x3 (by omega))
      have z4 := hrk.1; have z5 := hrk.2.1
      replace O1 := hide (O1.out.below x3 (Nat.le_refl _))
      replace B0 := hide (B0.out.ext x3)
      have cB3 := B0.out.cell
      rw [hW3.out] at cB3
      replace X := hide (X.out.trans x3)
      have sz3 := x3.size
      have NWH := namesDiss (.pointer (some ⟨wr.heap.size, 0, none⟩)) (.pointer (some ⟨w.heap.size, 0, none⟩)) (dissP d x) W3 A c w.heap.size d.1 (H1.out.ext X.out (Nat.le_refl _)) X.out.size HIT.out
        (fun w' ix kx x' hi hk => diss1_any w' wr.heap.size w.heap.size d x ix kx A A' D Ak n c n' c' m' e ck (BV.out.ext x') ((HRK.out.ext x' (by have := X.out.size; omega)).more (by have := x'.size; have := X.out.size; omega)) (List.mem_of_getElem? hxk.out) (B0.out.ext x') (kSh.rd_ext HR.out (X.out.trans x')) hok HS.out hi hk)
      rw [hn.out] at NWH
      have NH := hide NWH
      clear NWH hrk x3
      have TK : Hid ((d.2.1.take (j + 1)).map (dissN d) = (d.2.1.take j).map (dissN d) ++ [dissN d x]) := by
        obtain ⟨hk', e⟩ := List.getElem?_eq_some_iff.1 hxk.out
        show _ = _
        rw [List.take_succ_eq_append_getElem hk', List.map_append, e]
        rfl
      have DN : Hid (dissN d x = ((pairs (dissP d x) d.1).length : Int)) := rfl
      generalize x.length = m8 at *
      subst hA'
      go_wp2_with fail
      rw [← hW3.out]
      clear hW3 cB cB3
      refine NH.out.mono ?_
      rintro e1 w4 ⟨A9, c9, fp, rfl, hl, hf, x4⟩
      have hcap := hl.cap
      replace X := hide (X.out.trans x4)
      replace O1 := hide (O1.out.below x4 (Nat.le_refl _))
      replace B0 := hide (B0.out.ext x4)
      have sz4 := X.out.size
      clear hl hf x4 NH
      generalize (pairs (dissP d x) d.1).length = L at *
      go_wp2_with (at_builtin; refine wpList_append_sl rfl (.tmp 18) (.tmp 24) rfl elem_int rfl rfl (Own.alloc O1.out _) (Sl.one w4 (.int .i64 L) 3) (one_int L) ?c1 ?c2 ?c3 ?_)
      case c1 => omega
      case c2 => omega
      case c3 => have := B0.out.lt; simp; omega
      intro A2 c2 w5 hap
      have HAP := hide hap
      clear hap
      go_wp2
      go_roundw
      case rel =>
        exact ⟨j + 1, A2, c2, by omega, by go_num, rfl, own_conv HAP.out.own (Nat.le_refl _) rfl (by rw [TK.out, DN.out]; simp), (B0.out.alloc _).apdS HAP.out (fun p hp => by have := Own.fromLo O1.out p hp; omega), HAP.out.ext (X.out.trans (Ext.alloc _ _)) (fun p hp => by have := Own.fromLo O1.out p hp; omega)⟩
      case measure => simp [intOf]; omega
    · have ek : n' = j := by omega
      replace O1 : Hid (OwnI 3 wr (w.heap.size + 1) A1 j c1 (d.2.1.map (dissN d))) := by have h8 := O1.out; rwa [List.take_of_length_le (by rw [hn'.out]; omega)] at h8
      have hl0 := O1.out.len
      have HL0 := hide hl0
      clear hl0
      go_wp2
      go_ret2
      rw [HF.out]
      refine ⟨_, rfl, ⟨A1, c1, by rw [HL0.out]; rfl, ?_⟩, ?_, X.out⟩
      · rw [HL0.out]
        exact (O1.out.lower (by omega)).fr
      · show (d.2.1.map (dissN d)).length ≤ 1048576
        rw [HL0.out]; omega

/-- The first j numbers, then zeros. -/
def dJ (full : List Int) (j : Nat) : List Int := full.take j ++ List.replicate (3 - j) 0
theorem dJ_len {full : List Int} (h : full.length = 3) {j : Nat} (hj : j ≤ 3) : (dJ full j).length = 3 := by simp [dJ]; omega
theorem dJ_at {full : List Int} (h : full.length = 3) {j : Nat} (hj : j < 3) : (dJ full j)[j]? = some 0 := by
  have e : (full.take j).length = j := by simp; omega
  unfold dJ
  rw [List.getElem?_append_right (by omega), e, Nat.sub_self, List.getElem?_replicate, if_pos (by omega)]
theorem dJ_zero {full : List Int} (h : full.length = 3) {j : Nat} (hj : j < 3) : (dJ full j).set j 0 = dJ full j := by
  obtain ⟨h1, h2⟩ := List.getElem?_eq_some_iff.1 (dJ_at h hj)
  conv => lhs; rw [← h2]
  exact List.set_getElem_self h1
theorem dJ_step {full : List Int} (h : full.length = 3) {j : Nat} (hj : j < 3) {z : Int} (hz : full[j]? = some z) : (dJ full j).set j z = dJ full (j + 1) := by
  obtain ⟨h1, rfl⟩ := List.getElem?_eq_some_iff.1 hz
  have e : (full.take j).length = j := by simp; omega
  have e2 : 3 - j = (3 - (j + 1)) + 1 := by omega
  unfold dJ
  rw [List.set_append_right _ _ (by omega), e, Nat.sub_self, e2, List.replicate_succ, List.set_cons_zero, List.take_succ_eq_append_getElem h1, List.append_assoc]
  rfl

set_option maxRecDepth 100000 in
set_option maxHeartbeats 8000000 in
theorem s.Dissents_law (w : World) (v : Value) (d : ShD) (h : kSh.rd w v d) (hok : kSh.ok d) :
    Calls Try.prog 26 #[v] w fun e w' => ∃ v0, e = .returned (.tuple #[v0, .bool (dissF d).2]) ∧ kI.fr w' w.heap.size w'.heap.size v0 (dissF d).1 ∧ kI.ok (dissF d).1 ∧ Ext w w' := by
  obtain ⟨A, c, A', c', D, e, rfl, h1, h2, h3⟩ := kSh.lr h
  have hok' : kdSh.wt d ≤ 1048576 := hok
  rw [kdSh.wt_eq] at hok'
  have hw1 : wtL kdItem d.1 ≤ 1048576 := by have : kdItS.wt d.1 = wtL kdItem d.1 := rfl; omega
  have k1 := wtL_len kdItem d.1
  have a1 := h1.1; have a2 := h1.2.1
  have HR := hide h
  have H1 := hide h1
  have HW1 := hide hw1
  have hn0 : d.1.length ≤ 1048576 := by omega
  clear h h1 h2 h3 hok' hw1 k1
  obtain ⟨n, hn⟩ : ∃ n, Hid (d.1.length = n) := ⟨_, rfl⟩
  obtain ⟨n', hn'⟩ : ∃ n', Hid (d.2.1.length = n') := ⟨_, rfl⟩
  obtain ⟨m', hm'⟩ : ∃ n', Hid (d.2.2.length = n') := ⟨_, rfl⟩
  rw [hn.out] at a1 hn0
  rw [hn.out, hn'.out, hm'.out] at HR ⊢
  obtain ⟨W0, hW0⟩ : ∃ W0, Hid (W0 = w.alloc (.cells #[.slice A n c, .slice A' n' c', .slice D m' e] 28)) := ⟨_, rfl⟩
  have X : Hid (Ext w W0) := by rw [hW0.out]; exact Ext.alloc w _
  have B0 : Hid (Blk W0 w.heap.size #[.slice A n c, .slice A' n' c', .slice D m' e] 28) := by rw [hW0.out]; exact Blk.new rfl _ _
  obtain ⟨H2x, H2⟩ : ∃ q, Hid (LR kdLL w w.heap.size A' c' d.2.1) ∧ q = 0 := by
    obtain ⟨A1, c1, A2, c2, D1, e1, he, h1, h2, h3⟩ := kSh.lr HR.out
    simp only [Value.agg.injEq, Array.mk.injEq, List.cons.injEq, Value.slice.injEq, and_true] at he
    obtain ⟨⟨rfl, _, rfl⟩, ⟨rfl, _, rfl⟩, ⟨rfl, _, rfl⟩⟩ := he
    exact ⟨0, h2, rfl⟩
  replace H2 := H2.1
  have a3 := H2.out.1; have a4 := H2.out.2.1
  rw [hn'.out] at a3
  obtain ⟨F, hF⟩ : ∃ F, Hid (dissF d = F) := ⟨_, rfl⟩
  rw [hF.out]
  obtain ⟨i0, hi0, hz0, hz1, hz2⟩ := info_parts info_int
  have HI0 := hide hi0; have HZ0 := hide hz0; have HZ1 := hide hz1; have HZ2 := hide hz2
  clear hi0 hz0 hz1 hz2
  go_enter Try.func26, Try.ntmps26
  go_wp2_with fail
  rw [← hW0.out]
  clear hW0
  refine (s.caGood_m _ _ d (kSh.rd_ext HR.out X.out) hok).mono ?_
  rintro e1 w1 ⟨rfl, x1⟩
  replace X := hide (X.out.trans x1)
  replace B0 := hide (B0.out.ext x1)
  clear x1
  have cB := B0.out.cell
  cases hs : sheetB d
  · have HF : Hid (F = ([], false)) := by show _ = _; rw [← hF.out]; simp [dissF, hs]
    clear hs
    go_wp2
    go_ret2
    rw [HF.out]
    exact ⟨_, rfl, ⟨none, 0, rfl, OwnI.nil, Nat.le_refl _, fun p hp => by cases hp⟩, Nat.zero_le _, X.out⟩
  have HS := hide hs
  have HF : Hid (F = (d.2.1.map (dissN d), true)) := by show _ = _; rw [← hF.out]; simp [dissF, hs]
  have hit : itemsB d.1 = true := by simp only [sheetB, cleanB, Bool.and_eq_true] at hs; exact hs.1.1.1.1.1
  have N3 := hide (names_three hit)
  have n14 : d.1.length ≤ 14 := by simp [itemsB] at hit; omega
  rw [hn.out] at n14
  have hv3 := sheetB_votes hs
  have FL : Hid ((d.2.1.map (dissN d)).length = 3) := by show _ = _; rw [List.length_map]; exact hv3
  obtain ⟨full, hfull⟩ : ∃ full, Hid (d.2.1.map (dissN d) = full) := ⟨_, rfl⟩
  rw [hfull.out] at FL HF
  have FA : Hid (∀ (j : Nat) (x : List (List Int)), d.2.1[j]? = some x → full[j]? = some (dissN d x)) := fun j x hx => by rw [← hfull.out, List.getElem?_map, hx]; rfl
  have SR : Hid (∀ (j : Nat) (x : List (List Int)), d.2.1[j]? = some x → x.length = n ∧ ∀ (i : Nat) (l : List Int), x[i]? = some l → l.length = (namesAt d.1 i).length ∧ ∀ k, voteAt x i k = l.getD k 0) := fun j x hx => by
    obtain ⟨e1, e2⟩ := sheetB_rows HS.out (List.mem_of_getElem? hx)
    rw [hn.out] at e1 e2
    refine ⟨e1, fun i l hl => ?_⟩
    have hi := (List.getElem?_eq_some_iff.1 hl).1
    have e3 := e2 i (by omega)
    rw [List.getD_eq_getElem?_getD, hl] at e3
    exact ⟨by simpa using e3, fun k => by unfold voteAt; rw [List.getD_eq_getElem?_getD (l := x), hl]; rfl⟩
  rw [hn'.out] at hv3
  have n3 : n' ≤ 3 ∧ 3 ≤ n' := by omega
  clear hs hit hF hv3 hfull
  have z1 : w.heap.size < w1.heap.size := B0.out.lt
  go_wp2_with (at_make; refine wpList_make_full _ rfl _ _ _ rfl (w.heap.size + 1) 3 i0 _ 1 Try.underlying42 HI0.out HZ0.out HZ1.out _ _ _ _ 3 rfl rfl rfl rfl ?c1 ?c2 ?c3 ?_)
  case c1 => rw [HZ2.out]; omega
  case c2 => unfold maxLen; omega
  case c3 => exact z1
  intro w2 hown hgrow
  have hb1 : Ext w1 w2 := (Ext.refl w1).grown hgrow (Nat.le_refl _) (by simp)
  have O1 : Hid (OwnI 3 w2 (w.heap.size + 1) (some ⟨w1.heap.size, 0, none⟩) 3 3 (dJ full 0)) := by
    have e : dJ full 0 = List.replicate 3 0 := by simp [dJ]
    show OwnI _ _ _ _ _ _ _
    rw [e]
    rw [toList_madeCells_one] at hown
    exact hown
  replace X := hide (X.out.trans hb1)
  replace B0 := hide (B0.out.ext hb1)
  clear hown hgrow hb1 cB
  generalize w1.heap.size = g1 at *
  have cB := B0.out.cell
  go_wp2
  clear cB
  go_loopw [19] (fun i5 wr => ∃ (j : Nat), j ≤ n' ∧ i5 = .int .i64 j ∧ OwnI 3 wr (w.heap.size + 1) (some ⟨g1, 0, none⟩) 3 3 (dJ full j) ∧ Blk wr w.heap.size #[.slice A n c, .slice A' n' c', .slice D m' e] 28 ∧ Ext w wr) (fun i5 _ => n' - (intOf i5).toNat)
  case atStart => exact ⟨0, Nat.zero_le _, rfl, O1.out, B0.out, X.out⟩
  case round =>
    obtain ⟨j, hj, rfl, ho, hb0, hx⟩ := hrel
    clear B0 X O1
    have O1 := hide ho
    have B0 := hide hb0
    have X := hide hx
    clear ho hb0 hx
    by_cases hltj : j < n'
    · obtain ⟨x, hxk⟩ : ∃ x, Hid (d.2.1[j]? = some x) := ⟨_, List.getElem?_eq_getElem (by rw [hn'.out]; exact hltj)⟩
      have j3 : j < 3 := by omega
      obtain ⟨b, off, Ak, ck, hA', hb, hck, hrk⟩ := (H2.out.ext X.out (Nat.le_refl _)).voteS j x hxk.out
      have HX2 : Hid (∀ (wq : World), Ext w wq → LR kdL wq w.heap.size Ak ck x) := fun wq xq => by
        obtain ⟨b', off', Ak', ck', hA2, hb2, hck2, hrk2⟩ := (H2.out.ext xq (Nat.le_refl _)).voteS j x hxk.out
        rw [hA'] at hA2
        simp only [Option.some.injEq, Addr.mk.injEq, and_true] at hA2
        obtain ⟨rfl, rfl⟩ := hA2
        have e9 := (xq.cell (p := ⟨b, off + j, none⟩) hb).symm.trans hck2 |>.symm.trans ((X.out.cell (p := ⟨b, off + j, none⟩) hb).symm.trans hck)
        simp only [Option.some.injEq, Value.slice.injEq, true_and] at e9
        obtain ⟨rfl, rfl⟩ := e9
        exact hrk2
      obtain ⟨hxn, hxr⟩ := SR.out j x hxk.out
      have XR := hide hxr
      have z4 := hrk.1; have z5 := hrk.2.1
      have ST := hide (dJ_step FL.out j3 (FA.out j x hxk.out))
      have DZ := hide (dJ_zero FL.out j3)
      have DL := hide (dJ_len FL.out (Nat.le_of_lt j3))
      have DN : Hid (dissN d x = ((pairs (dissP d x) d.1).length : Int)) := rfl
      have CL := hide (fun (wq : World) (ix kx : Nat) (xq : Ext w wq) (hi : ix < d.1.length) (hk : kx < (namesAt d.1 ix).length) => s.caCall_m wq _ d ix kx (kSh.rd_ext HR.out xq) hok HS.out hi hk)
      rw [hn.out] at CL
      rw [hxn] at hck z4
      clear hrk hxr
      obtain ⟨Ps, hPs⟩ : ∃ P, Hid (P = dissP d x) := ⟨_, rfl⟩
      rw [← hPs.out] at DN
      generalize hDj : dJ full j = dj at *
      clear hDj
      subst hA'
      go_wp2
      go_loopw [26] (fun i5 wr => ∃ (ix : Nat), ix ≤ n ∧ i5 = .int .i64 ix ∧ OwnI 3 wr (w.heap.size + 1) (some ⟨g1, 0, none⟩) 3 3 (dj.set j ((pairsN Ps d.1 ix).length : Int)) ∧ Blk wr w.heap.size #[.slice A n c, .slice (some ⟨b, off, none⟩) n' c', .slice D m' e] 28 ∧ Ext w wr) (fun i5 _ => n - (intOf i5).toNat)
      case atStart => exact ⟨0, Nat.zero_le _, rfl, by show OwnI _ _ _ _ _ _ (dj.set j 0); rw [DZ.out]; exact O1.out, B0.out, X.out⟩
      case round =>
        obtain ⟨ix, hix, rfl, ho, hb0, hx⟩ := hrel
        clear B0 X O1
        have O1 := hide ho
        have B0 := hide hb0
        have X := hide hx
        clear ho hb0 hx
        by_cases hlti : ix < n
        · obtain ⟨l, hlk⟩ : ∃ l, Hid (x[ix]? = some l) := ⟨_, List.getElem?_eq_getElem (by omega)⟩
          obtain ⟨b6, off6, A3, c3, hA6, hb6, q3, r3⟩ := (HX2.out wr X.out).rowS ix l hlk.out
          obtain ⟨hln, hlv⟩ := XR.out ix l hlk.out
          have l3 := N3.out ix
          have y3 := r3.1; have y4 := r3.2.1
          have PS := hide (pairsN_succ Ps d.1 ix)
          have ln := pairsN_len Ps d.1 N3.out ix
          have CK := hide (fun (wq : World) (kx : Nat) (xq : Ext w wq) (hk : kx < (namesAt d.1 ix).length) => CL.out wq ix kx xq hlti hk)
          have HLV : Hid (∀ kx, Ps ix kx = dissB (l.getD kx 0) (callF d ix kx)) := fun kx => by rw [hPs.out, dissP, hlv kx]
          rw [← hln] at l3 PS CK
          have SL : Hid (∀ wq : World, Ext w wq → SlI wq w.heap.size A3 l.length l) := fun wq xq => by
            obtain ⟨b7, off7, A4, c4, hA7, hb7, q7, r7⟩ := (HX2.out wq xq).rowS ix l hlk.out
            rw [hA6] at hA7
            simp only [Option.some.injEq, Addr.mk.injEq, and_true] at hA7
            obtain ⟨rfl, rfl⟩ := hA7
            have e9 := (xq.cell (p := ⟨b6, off6 + ix, none⟩) hb6).symm.trans q7 |>.symm.trans ((X.out.cell (p := ⟨b6, off6 + ix, none⟩) hb6).symm.trans q3)
            simp only [Option.some.injEq, Value.slice.injEq, true_and] at e9
            obtain ⟨rfl, rfl⟩ := e9
            exact r7.sl
          clear r3 hln hlv
          obtain ⟨m, hm⟩ : ∃ m, Hid (l.length = m) := ⟨_, rfl⟩
          rw [hm.out] at l3 PS CK q3 y3 SL
          generalize hpl : pairsN Ps d.1 ix = pl at *
          clear hpl
          subst hA6
          go_wp2
          go_loopw [33] (fun i5 wr => ∃ (kx : Nat), kx ≤ m ∧ i5 = .int .i64 kx ∧ OwnI 3 wr (w.heap.size + 1) (some ⟨g1, 0, none⟩) 3 3 (dj.set j ((pl ++ rowP Ps ix kx).length : Int)) ∧ Blk wr w.heap.size #[.slice A n c, .slice (some ⟨b, off, none⟩) n' c', .slice D m' e] 28 ∧ Ext w wr) (fun i5 _ => m - (intOf i5).toNat)
          case atStart => exact ⟨0, Nat.zero_le _, rfl, by simpa [rowP] using O1.out, B0.out, X.out⟩
          case round =>
            obtain ⟨kx, hkx, rfl, ho, hb0, hx⟩ := hrel
            clear B0 X O1
            have O1 := hide ho
            have B0 := hide hb0
            have X := hide hx
            clear ho hb0 hx
            by_cases hltk : kx < m
            · obtain ⟨b8, off8, hA8, hb8, hc8⟩ := (SL.out wr X.out).cells (by omega)
              have q8 := hc8 kx hltk
              have CC := hide (CK.out wr kx X.out hltk)
              have RS := hide (rowP_succ Ps ix kx)
              have rl := rowP_len Ps ix kx
              have PV := hide (HLV.out kx)
              have LN : (pl ++ rowP Ps ix kx).length ≤ 100 := by rw [List.length_append]; omega
              generalize hpr : pl ++ rowP Ps ix kx = pr at *
              have HPR := hide hpr
              clear hpr rl hc8
              generalize callF d ix kx = C at *
              generalize l.getD kx 0 = vt at *
              obtain ⟨L, hL⟩ : ∃ L, Hid (pr.length = L) := ⟨_, rfl⟩
              rw [hL.out] at O1 LN
              have cB := B0.out.cell
              subst hA8
              go_wp2_with fail
              clear cB
              refine CC.out.mono ?_
              rintro e1 w5 ⟨rfl, x5⟩
              replace X := hide (X.out.trans x5)
              replace O1 := hide (O1.out.below x5 (Nat.le_refl _))
              replace B0 := hide (B0.out.ext x5)
              clear x5 CC
              have oc := O1.out.cell j (by omega)
              have og : (dj.set j (L : Int)).getD j 0 = L := by rw [List.getD_eq_getElem?_getD, List.getElem?_set, if_pos rfl, if_pos (by rw [DL.out]; omega)]; rfl
              rw [og] at oc
              have of_ := O1.out.free j
              clear og
              have NO : Hid (dissB vt C = false → (dj.set j ((pl ++ rowP Ps ix (kx + 1)).length : Int)) = dj.set j (L : Int)) := fun h8 => by
                rw [RS.out, PV.out, h8, ← hL.out, ← HPR.out]; simp
              have YES : Hid (dissB vt C = true → (dj.set j ((pl ++ rowP Ps ix (kx + 1)).length : Int)) = dj.set j ((L : Int) + 1)) := fun h8 => by
                rw [RS.out, PV.out, h8, ← hL.out, ← HPR.out]; simp; congr 1 <;> omega
              have wl : IntKind.i64.wrap ((L : Int) + 1) = (L : Int) + 1 := IntWalk.i64_in _ (by omega)
              have O2 := hide (O1.out.set j ((L : Int) + 1))
              rw [List.set_set] at O2
              have gl : w.heap.size + 1 ≤ g1 := by have := Own.fromLo O1.out ⟨g1, 0, none⟩ rfl; exact this
              by_cases h1 : 0 ≤ vt
              · by_cases h2 : 0 ≤ C
                · by_cases h3 : vt = C
                  · have b1 : (vt != C) = false := by simp [h3]
                    have HF9 := hide (NO.out (by simp [dissB, b1]))
                    clear h3
                    go_wp2
                    go_roundw
                    case rel => exact ⟨kx + 1, by omega, by go_num, by rw [HF9.out]; exact O1.out, B0.out, X.out⟩
                    case measure => simp [intOf]; omega
                  · have b1 : (vt != C) = true := by simp [h3]
                    have HF9 := hide (YES.out (by simp [dissB, b1, h1, h2]))
                    clear h3
                    go_wp2
                    go_roundw
                    case rel => exact ⟨kx + 1, by omega, by go_num, by rw [HF9.out]; exact O2.out, B0.out.far (by show w.heap.size ≠ g1; omega) _, Below.setCell X.out (by show w.heap.size ≤ g1; omega) _⟩
                    case measure => simp [intOf]; omega
                · have HF9 := hide (NO.out (by simp [dissB, h2]))
                  go_wp2
                  go_roundw
                  case rel => exact ⟨kx + 1, by omega, by go_num, by rw [HF9.out]; exact O1.out, B0.out, X.out⟩
                  case measure => simp [intOf]; omega
              · have HF9 := hide (NO.out (by simp [dissB, h1]))
                go_wp2
                go_roundw
                case rel => exact ⟨kx + 1, by omega, by go_num, by rw [HF9.out]; exact O1.out, B0.out, X.out⟩
                case measure => simp [intOf]; omega
            · have ek : m = kx := by omega
              subst ek
              rw [← PS.out] at O1
              go_wp2
              go_roundw
              case rel => exact ⟨ix + 1, by omega, by go_num, O1.out, B0.out, X.out⟩
              case measure => simp [intOf]; omega
        · have ek : n = ix := by omega
          have OE : Hid (OwnI 3 wr (w.heap.size + 1) (some ⟨g1, 0, none⟩) 3 3 (dJ full (j + 1))) := by
            have h8 := O1.out
            have e8 : ((pairsN Ps d.1 ix).length : Int) = dissN d x := by rw [DN.out, pairs, hn.out, ek]
            rw [e8, ST.out] at h8
            exact h8
          clear ek
          go_wp2
          go_roundw
          case rel => exact ⟨j + 1, by omega, by go_num, OE.out, B0.out, X.out⟩
          case measure => simp [intOf]; omega
    · have ek : j = 3 := by omega
      have OE : Hid (OwnI 3 wr (w.heap.size + 1) (some ⟨g1, 0, none⟩) 3 3 full) := by
        have h8 := O1.out
        rw [ek] at h8
        have e8 : dJ full 3 = full := by unfold dJ; rw [List.take_of_length_le (by rw [FL.out]; exact Nat.le_refl _)]; simp
        rwa [e8] at h8
      clear ek
      go_wp2
      go_ret2
      rw [HF.out]
      refine ⟨_, rfl, ⟨some ⟨g1, 0, none⟩, 3, by rw [FL.out]; rfl, ?_⟩, ?_, X.out⟩
      · rw [FL.out]
        exact (OE.out.lower (by omega)).fr
      · show full.length ≤ 1048576
        rw [FL.out]; omega
end Go.Proofs.Ytofmfagdaiphaaa

/- The same names. -/
namespace Go.Proofs.Ytofmfagdaiphaaa
open Go.RowKit Go.Sort
set_option linter.unusedVariables false

theorem eq_of_takes {α : Type} {xs ys : List α} (hl : xs.length = ys.length) {k : Nat} (h : xs.take k = ys.take k) (hk : xs.length ≤ k) : xs = ys := by
  rwa [List.take_of_length_le hk, List.take_of_length_le (by omega)] at h

set_option maxHeartbeats 2000000 in
theorem equalS_any (w : World) (A A' : Option Addr) (c c' B : Nat) (xs ys : List (List UInt8)) (h : LR kdS w B A c xs) (h' : LR kdS w B A' c' ys) (hB : B ≤ w.heap.size) (hx : xs.length ≤ 1048576) (hy : ys.length ≤ 1048576) :
    Calls Try.prog 87 #[.slice A xs.length c, .slice A' ys.length c'] w fun e w' => e = .returned (.bool (decide (xs = ys))) ∧ Ext w w' := by
  have H := hide h
  have H' := hide h'
  have a1 := h.1; have a2 := h.2.1; have a3 := h'.1; have a4 := h'.2.1
  clear h h'
  obtain ⟨R, hR⟩ : ∃ R, Hid (decide (xs = ys) = R) := ⟨_, rfl⟩
  rw [hR.out]
  obtain ⟨n, hn⟩ : ∃ n, Hid (xs.length = n) := ⟨_, rfl⟩
  obtain ⟨m, hm⟩ : ∃ n, Hid (ys.length = n) := ⟨_, rfl⟩
  rw [hn.out] at a1 hx ⊢
  rw [hm.out] at a3 hy ⊢
  by_cases hne : n = m
  · subst hne
    have b1 : ((n : Int) != (n : Int)) = false := by simp
    go_enter Try.func87, Try.ntmps87
    go_wp2
    go_loopw [13] (fun i0 wr => ∃ (k : Nat), k ≤ n ∧ i0 = .int .i64 k ∧ xs.take k = ys.take k ∧ Ext w wr) (fun i0 _ => n - (intOf i0).toNat)
    case atStart => exact ⟨0, Nat.zero_le _, rfl, by simp, Ext.refl _⟩
    case round =>
      obtain ⟨k, hk, rfl, htk, hx9⟩ := hrel
      have HT := hide htk
      have X := hide hx9
      clear htk hx9
      by_cases hlt : k < n
      · obtain ⟨x, hxk⟩ : ∃ x, Hid (xs[k]? = some x) := ⟨_, List.getElem?_eq_getElem (by rw [hn.out]; exact hlt)⟩
        obtain ⟨y, hyk⟩ : ∃ y, Hid (ys[k]? = some y) := ⟨_, List.getElem?_eq_getElem (by rw [hm.out]; exact hlt)⟩
        obtain ⟨b, off, rfl, hb, q1, _⟩ := (H.out.ext X.out hB).str k x hxk.out
        obtain ⟨b', off', rfl, hb', q2, _⟩ := (H'.out.ext X.out hB).str k y hyk.out
        have i1 : (k : Int) < n := by omega
        by_cases e : x = y
        · subst e
          have HS : Hid (xs.take (k + 1) = ys.take (k + 1)) := by
            obtain ⟨h1, h2⟩ := List.getElem?_eq_some_iff.1 hxk.out
            obtain ⟨h3, h4⟩ := List.getElem?_eq_some_iff.1 hyk.out
            show _ = _
            rw [List.take_succ_eq_append_getElem h1, List.take_succ_eq_append_getElem h3, HT.out, h2, h4]
          generalize bs x = xb at *
          go_wp2
          go_region
          all_goals go_wp2
          all_goals go_roundw
          case rel => exact ⟨k + 1, by omega, by go_num, HS.out, X.out.trans (Ext.drew _)⟩
          case measure => simp [intOf]; omega
        · have HF : Hid (R = false) := by
            show _ = _
            rw [← hR.out, decide_eq_false_iff_not]
            rintro rfl
            exact e (by have h1 := hxk.out.symm.trans hyk.out; simpa using h1)
          have hbt : ((bs x).toList == (bs y).toList) = false := by rw [show (bs x).toList = x from Go.ByteArray.toList_mk x, show (bs y).toList = y from Go.ByteArray.toList_mk y]; simpa using e
          clear e
          generalize bs x = xb at *
          generalize bs y = yb at *
          go_wp2
          go_region
          all_goals go_wp2
          all_goals go_ret
          all_goals exact ⟨ret_bool HF.out.symm, X.out.trans (Ext.drew _)⟩
      · have HF : Hid (R = true) := by
          show _ = _
          rw [← hR.out, decide_eq_true_eq]
          exact eq_of_takes (by rw [hn.out, hm.out]) HT.out (by rw [hn.out]; omega)
        go_wp2
        go_ret
        exact ⟨ret_bool HF.out.symm, X.out⟩
  · have b1 : ((n : Int) != (m : Int)) = true := by rw [bne_iff_ne]; intro h8; exact hne (by omega)
    have HF : Hid (R = false) := by
      show _ = _
      rw [← hR.out, decide_eq_false_iff_not]
      rintro rfl
      exact hne (hn.out.symm.trans hm.out)
    clear hne
    go_enter Try.func87, Try.ntmps87
    go_wp2
    go_ret
    exact ⟨ret_bool HF.out.symm, Ext.refl _⟩

set_option maxHeartbeats 2000000 in
theorem sameS_any (w : World) (A A' : Option Addr) (c c' B : Nat) (xs ys : List (List UInt8)) (h : LR kdS w B A c xs) (h' : LR kdS w B A' c' ys) (hB : B ≤ w.heap.size) (hx : xs.length ≤ 1048576) (hy : ys.length ≤ 1048576) :
    Calls Try.prog 88 #[.slice A xs.length c, .slice A' ys.length c'] w fun e w' => e = .returned (.bool (decide (xs = ys))) ∧ Ext w w' := by
  have H := hide h
  have H' := hide h'
  have a1 := h.1; have a2 := h.2.1; have a3 := h'.1; have a4 := h'.2.1
  clear h h'
  obtain ⟨R, hR⟩ : ∃ R, Hid (decide (xs = ys) = R) := ⟨_, rfl⟩
  rw [hR.out]
  obtain ⟨n, hn⟩ : ∃ n, Hid (xs.length = n) := ⟨_, rfl⟩
  obtain ⟨m, hm⟩ : ∃ n, Hid (ys.length = n) := ⟨_, rfl⟩
  rw [hn.out] at a1 hx ⊢
  rw [hm.out] at a3 hy ⊢
  by_cases hne : n = m
  · subst hne
    have b1 : ((n : Int) != (n : Int)) = false := by simp
    go_enter Try.func88, Try.ntmps88
    go_wp2
    go_loopw [13] (fun i0 wr => ∃ (k : Nat), k ≤ n ∧ i0 = .int .i64 k ∧ xs.take k = ys.take k ∧ Ext w wr) (fun i0 _ => n - (intOf i0).toNat)
    case atStart => exact ⟨0, Nat.zero_le _, rfl, by simp, Ext.refl _⟩
    case round =>
      obtain ⟨k, hk, rfl, htk, hx9⟩ := hrel
      have HT := hide htk
      have X := hide hx9
      clear htk hx9
      by_cases hlt : k < n
      · obtain ⟨x, hxk⟩ : ∃ x, Hid (xs[k]? = some x) := ⟨_, List.getElem?_eq_getElem (by rw [hn.out]; exact hlt)⟩
        obtain ⟨y, hyk⟩ : ∃ y, Hid (ys[k]? = some y) := ⟨_, List.getElem?_eq_getElem (by rw [hm.out]; exact hlt)⟩
        obtain ⟨b, off, rfl, hb, q1, _⟩ := (H.out.ext X.out hB).str k x hxk.out
        obtain ⟨b', off', rfl, hb', q2, _⟩ := (H'.out.ext X.out hB).str k y hyk.out
        have i1 : (k : Int) < n := by omega
        by_cases e : x = y
        · subst e
          have HS : Hid (xs.take (k + 1) = ys.take (k + 1)) := by
            obtain ⟨h1, h2⟩ := List.getElem?_eq_some_iff.1 hxk.out
            obtain ⟨h3, h4⟩ := List.getElem?_eq_some_iff.1 hyk.out
            show _ = _
            rw [List.take_succ_eq_append_getElem h1, List.take_succ_eq_append_getElem h3, HT.out, h2, h4]
          generalize bs x = xb at *
          go_wp2
          go_region
          all_goals go_wp2
          all_goals go_roundw
          case rel => exact ⟨k + 1, by omega, by go_num, HS.out, X.out.trans (Ext.drew _)⟩
          case measure => simp [intOf]; omega
        · have HF : Hid (R = false) := by
            show _ = _
            rw [← hR.out, decide_eq_false_iff_not]
            rintro rfl
            exact e (by have h1 := hxk.out.symm.trans hyk.out; simpa using h1)
          have hbt : ((bs x).toList == (bs y).toList) = false := by rw [show (bs x).toList = x from Go.ByteArray.toList_mk x, show (bs y).toList = y from Go.ByteArray.toList_mk y]; simpa using e
          clear e
          generalize bs x = xb at *
          generalize bs y = yb at *
          go_wp2
          go_region
          all_goals go_wp2
          all_goals go_ret
          all_goals exact ⟨ret_bool HF.out.symm, X.out.trans (Ext.drew _)⟩
      · have HF : Hid (R = true) := by
          show _ = _
          rw [← hR.out, decide_eq_true_eq]
          exact eq_of_takes (by rw [hn.out, hm.out]) HT.out (by rw [hn.out]; omega)
        go_wp2
        go_ret
        exact ⟨ret_bool HF.out.symm, X.out⟩
  · have b1 : ((n : Int) != (m : Int)) = true := by rw [bne_iff_ne]; intro h8; exact hne (by omega)
    have HF : Hid (R = false) := by
      show _ = _
      rw [← hR.out, decide_eq_false_iff_not]
      rintro rfl
      exact hne (hn.out.symm.trans hm.out)
    clear hne
    go_enter Try.func88, Try.ntmps88
    go_wp2
    go_ret
    exact ⟨ret_bool HF.out.symm, Ext.refl _⟩

def sameB (xs ys : List ItD) : Bool := decide (xs.map (·.1) = ys.map (·.1))

set_option maxRecDepth 100000 in
set_option maxHeartbeats 2000000 in
theorem i.sameNames_any (w : World) (A A' : Option Addr) (c c' B : Nat) (xs ys : List ItD) (h : LR kdItem w B A c xs) (h' : LR kdItem w B A' c' ys) (hB : B ≤ w.heap.size) (hx : wtL kdItem xs ≤ 1048576) (hy : wtL kdItem ys ≤ 1048576) :
    Calls Try.prog 69 #[.slice A xs.length c, .slice A' ys.length c'] w fun e w' => e = .returned (.bool (sameB xs ys)) ∧ Ext w w' := by
  have H := hide h
  have H' := hide h'
  have HW := hide hx
  have HW' := hide hy
  have a1 := h.1; have a2 := h.2.1; have a3 := h'.1; have a4 := h'.2.1
  have l1 := wtL_len kdItem xs; have l2 := wtL_len kdItem ys
  clear h h'
  obtain ⟨R, hR⟩ : ∃ R, Hid (sameB xs ys = R) := ⟨_, rfl⟩
  rw [hR.out]
  obtain ⟨n, hn⟩ : ∃ n, Hid (xs.length = n) := ⟨_, rfl⟩
  obtain ⟨m, hm⟩ : ∃ n, Hid (ys.length = n) := ⟨_, rfl⟩
  rw [hn.out] at a1 l1 ⊢
  rw [hm.out] at a3 l2 ⊢
  have hx1 : n ≤ 1048576 := by omega
  have hy1 : m ≤ 1048576 := by omega
  clear hx hy l1 l2
  by_cases hne : n = m
  · subst hne
    have b1 : ((n : Int) != (n : Int)) = false := by simp
    go_enter Try.func69, Try.ntmps69
    go_wp2
    go_loopw [13] (fun i0 wr => ∃ (k : Nat), k ≤ n ∧ i0 = .int .i64 k ∧ (xs.map (·.1)).take k = (ys.map (·.1)).take k ∧ Ext w wr) (fun i0 _ => n - (intOf i0).toNat)
    case atStart => exact ⟨0, Nat.zero_le _, rfl, by simp, Ext.refl _⟩
    case round =>
      obtain ⟨k, hk, rfl, htk, hx9⟩ := hrel
      have HT := hide htk
      have X := hide hx9
      clear htk hx9
      by_cases hlt : k < n
      · obtain ⟨x, hxk⟩ : ∃ x, Hid (xs[k]? = some x) := ⟨_, List.getElem?_eq_getElem (by rw [hn.out]; exact hlt)⟩
        obtain ⟨y, hyk⟩ : ∃ y, Hid (ys[k]? = some y) := ⟨_, List.getElem?_eq_getElem (by rw [hm.out]; exact hlt)⟩
        obtain ⟨b, off, A1, c1, A2, c2, rfl, hb, q0, _, _, r1, _⟩ := (H.out.ext X.out hB).item k x hxk.out
        obtain ⟨b', off', A3, c3, A4, c4, rfl, hb', q3, _, _, r3, _⟩ := (H'.out.ext X.out hB).item k y hyk.out
        have i1 : (k : Int) < n := by omega
        have sz := X.out.size
        have w1 := (kdItem.wt_le (Nat.le_trans (wtL_at kdItem xs k x hxk.out) HW.out)).1
        have w2 := (kdItem.wt_le (Nat.le_trans (wtL_at kdItem ys k y hyk.out) HW'.out)).1
        have u0 := fun dd os => cell_regrown q0 dd os
        have u3 := fun dd os => cell_regrown q3 dd os
        have HC := hide (fun dd os => ext_regrown (equalS_any (grow (redrawn wr dd) os) A1 A3 c1 c3 B x.1 y.1 (r1.ext (ext_re wr dd os) (by omega)) (r3.ext (ext_re wr dd os) (by omega)) (by have := (ext_re wr dd os).size; omega) w1 w2))
        have HS : Hid (x.1 = y.1 → (xs.map (·.1)).take (k + 1) = (ys.map (·.1)).take (k + 1)) := fun e => by
          obtain ⟨h1, h2⟩ := List.getElem?_eq_some_iff.1 hxk.out
          obtain ⟨h3, h4⟩ := List.getElem?_eq_some_iff.1 hyk.out
          rw [List.take_succ_eq_append_getElem (by simpa using h1), List.take_succ_eq_append_getElem (by simpa using h3), HT.out, List.getElem_map, List.getElem_map, h2, h4, e]
        have HN : Hid (¬ x.1 = y.1 → R = false) := fun e => by
          rw [← hR.out, sameB, decide_eq_false_iff_not]
          intro h8
          have h9 := congrArg (fun l => l[k]?) h8
          simp only [List.getElem?_map, hxk.out, hyk.out, Option.map_some, Option.some.injEq] at h9
          exact e h9
        obtain ⟨sb, hsb⟩ : ∃ sb, Hid (decide (x.1 = y.1) = sb) := ⟨_, rfl⟩
        rw [hsb.out] at HC
        clear r1 r3 w1 w2
        generalize x.1.length = m1 at *
        generalize y.1.length = m2 at *
        go_wp2
        refine wp_region_quiet_below (by kernel_rfl) (by kernel_rfl) ?_
        repeat (quiet_step (exact HC.out _ _))
        refine wpQuiet_nil ?_
        intro _ hw'
        obtain ⟨⟨dq, osq⟩, hw''⟩ := hw'
        subst hw''
        have HX2 := hide (X.out.trans (ext_re wr dq osq))
        clear u0 u3
        generalize grow (redrawn wr dq) osq = w2 at *
        cases sb
        · have HF := hide (HN.out (by simpa using hsb.out))
          go_wp2
          go_ret
          exact ⟨ret_bool HF.out.symm, HX2.out⟩
        · have HF := hide (HS.out (by simpa using hsb.out))
          go_wp2
          go_roundw
          case rel => exact ⟨k + 1, by omega, by go_num, HF.out, HX2.out⟩
          case measure => simp [intOf]; omega
      · have HF : Hid (R = true) := by
          show _ = _
          rw [← hR.out, sameB, decide_eq_true_eq]
          exact eq_of_takes (by simp [hn.out, hm.out]) HT.out (by simp [hn.out]; omega)
        go_wp2
        go_ret
        exact ⟨ret_bool HF.out.symm, X.out⟩
  · have b1 : ((n : Int) != (m : Int)) = true := by rw [bne_iff_ne]; intro h8; exact hne (by omega)
    have HF : Hid (R = false) := by
      show _ = _
      rw [← hR.out, sameB, decide_eq_false_iff_not]
      intro h8
      have h9 := congrArg List.length h8
      simp [hn.out, hm.out] at h9
      exact hne h9
    clear hne
    go_enter Try.func69, Try.ntmps69
    go_wp2
    go_ret
    exact ⟨ret_bool HF.out.symm, Ext.refl _⟩

set_option maxRecDepth 100000 in
set_option maxHeartbeats 2000000 in
theorem s.itSame_any (w : World) (A A' : Option Addr) (c c' B : Nat) (xs ys : List ItD) (h : LR kdItem w B A c xs) (h' : LR kdItem w B A' c' ys) (hB : B ≤ w.heap.size) (hx : wtL kdItem xs ≤ 1048576) (hy : wtL kdItem ys ≤ 1048576) :
    Calls Try.prog 71 #[.slice A xs.length c, .slice A' ys.length c'] w fun e w' => e = .returned (.bool (sameB xs ys)) ∧ Ext w w' := by
  have H := hide h
  have H' := hide h'
  have HW := hide hx
  have HW' := hide hy
  have a1 := h.1; have a2 := h.2.1; have a3 := h'.1; have a4 := h'.2.1
  have l1 := wtL_len kdItem xs; have l2 := wtL_len kdItem ys
  clear h h'
  obtain ⟨R, hR⟩ : ∃ R, Hid (sameB xs ys = R) := ⟨_, rfl⟩
  rw [hR.out]
  obtain ⟨n, hn⟩ : ∃ n, Hid (xs.length = n) := ⟨_, rfl⟩
  obtain ⟨m, hm⟩ : ∃ n, Hid (ys.length = n) := ⟨_, rfl⟩
  rw [hn.out] at a1 l1 ⊢
  rw [hm.out] at a3 l2 ⊢
  have hx1 : n ≤ 1048576 := by omega
  have hy1 : m ≤ 1048576 := by omega
  clear hx hy l1 l2
  by_cases hne : n = m
  · subst hne
    have b1 : ((n : Int) != (n : Int)) = false := by simp
    go_enter Try.func71, Try.ntmps71
    go_wp2
    go_loopw [13] (fun i0 wr => ∃ (k : Nat), k ≤ n ∧ i0 = .int .i64 k ∧ (xs.map (·.1)).take k = (ys.map (·.1)).take k ∧ Ext w wr) (fun i0 _ => n - (intOf i0).toNat)
    case atStart => exact ⟨0, Nat.zero_le _, rfl, by simp, Ext.refl _⟩
    case round =>
      obtain ⟨k, hk, rfl, htk, hx9⟩ := hrel
      have HT := hide htk
      have X := hide hx9
      clear htk hx9
      by_cases hlt : k < n
      · obtain ⟨x, hxk⟩ : ∃ x, Hid (xs[k]? = some x) := ⟨_, List.getElem?_eq_getElem (by rw [hn.out]; exact hlt)⟩
        obtain ⟨y, hyk⟩ : ∃ y, Hid (ys[k]? = some y) := ⟨_, List.getElem?_eq_getElem (by rw [hm.out]; exact hlt)⟩
        obtain ⟨b, off, A1, c1, A2, c2, rfl, hb, q0, _, _, r1, _⟩ := (H.out.ext X.out hB).item k x hxk.out
        obtain ⟨b', off', A3, c3, A4, c4, rfl, hb', q3, _, _, r3, _⟩ := (H'.out.ext X.out hB).item k y hyk.out
        have i1 : (k : Int) < n := by omega
        have sz := X.out.size
        have w1 := (kdItem.wt_le (Nat.le_trans (wtL_at kdItem xs k x hxk.out) HW.out)).1
        have w2 := (kdItem.wt_le (Nat.le_trans (wtL_at kdItem ys k y hyk.out) HW'.out)).1
        have u0 := fun dd os => cell_regrown q0 dd os
        have u3 := fun dd os => cell_regrown q3 dd os
        have HC := hide (fun dd os => ext_regrown (sameS_any (grow (redrawn wr dd) os) A1 A3 c1 c3 B x.1 y.1 (r1.ext (ext_re wr dd os) (by omega)) (r3.ext (ext_re wr dd os) (by omega)) (by have := (ext_re wr dd os).size; omega) w1 w2))
        have HS : Hid (x.1 = y.1 → (xs.map (·.1)).take (k + 1) = (ys.map (·.1)).take (k + 1)) := fun e => by
          obtain ⟨h1, h2⟩ := List.getElem?_eq_some_iff.1 hxk.out
          obtain ⟨h3, h4⟩ := List.getElem?_eq_some_iff.1 hyk.out
          rw [List.take_succ_eq_append_getElem (by simpa using h1), List.take_succ_eq_append_getElem (by simpa using h3), HT.out, List.getElem_map, List.getElem_map, h2, h4, e]
        have HN : Hid (¬ x.1 = y.1 → R = false) := fun e => by
          rw [← hR.out, sameB, decide_eq_false_iff_not]
          intro h8
          have h9 := congrArg (fun l => l[k]?) h8
          simp only [List.getElem?_map, hxk.out, hyk.out, Option.map_some, Option.some.injEq] at h9
          exact e h9
        obtain ⟨sb, hsb⟩ : ∃ sb, Hid (decide (x.1 = y.1) = sb) := ⟨_, rfl⟩
        rw [hsb.out] at HC
        clear r1 r3 w1 w2
        generalize x.1.length = m1 at *
        generalize y.1.length = m2 at *
        go_wp2
        refine wp_region_quiet_below (by kernel_rfl) (by kernel_rfl) ?_
        repeat (quiet_step (exact HC.out _ _))
        refine wpQuiet_nil ?_
        intro _ hw'
        obtain ⟨⟨dq, osq⟩, hw''⟩ := hw'
        subst hw''
        have HX2 := hide (X.out.trans (ext_re wr dq osq))
        clear u0 u3
        generalize grow (redrawn wr dq) osq = w2 at *
        cases sb
        · have HF := hide (HN.out (by simpa using hsb.out))
          go_wp2
          go_ret
          exact ⟨ret_bool HF.out.symm, HX2.out⟩
        · have HF := hide (HS.out (by simpa using hsb.out))
          go_wp2
          go_roundw
          case rel => exact ⟨k + 1, by omega, by go_num, HF.out, HX2.out⟩
          case measure => simp [intOf]; omega
      · have HF : Hid (R = true) := by
          show _ = _
          rw [← hR.out, sameB, decide_eq_true_eq]
          exact eq_of_takes (by simp [hn.out, hm.out]) HT.out (by simp [hn.out]; omega)
        go_wp2
        go_ret
        exact ⟨ret_bool HF.out.symm, X.out⟩
  · have b1 : ((n : Int) != (m : Int)) = true := by rw [bne_iff_ne]; intro h8; exact hne (by omega)
    have HF : Hid (R = false) := by
      show _ = _
      rw [← hR.out, sameB, decide_eq_false_iff_not]
      intro h8
      have h9 := congrArg List.length h8
      simp [hn.out, hm.out] at h9
      exact hne h9
    clear hne
    go_enter Try.func71, Try.ntmps71
    go_wp2
    go_ret
    exact ⟨ret_bool HF.out.symm, Ext.refl _⟩
end Go.Proofs.Ytofmfagdaiphaaa

/- ChangedCalls. -/
namespace Go.Proofs.Ytofmfagdaiphaaa
open Go.RowKit Go.Sort
set_option linter.unusedVariables false

def chgP (a b : ShD) (i k : Nat) : Bool := callF a i k != callF b i k
def chgF (a b : ShD) : List (List Int) × Bool := if sheetB a && sheetB b && sameB a.1 b.1 then (pairs (chgP a b) a.1, true) else ([], false)
theorem same_names {xs ys : List ItD} (h : sameB xs ys = true) : xs.length = ys.length ∧ ∀ i, namesAt xs i = namesAt ys i := by
  have h1 : xs.map (·.1) = ys.map (·.1) := by simpa [sameB] using h
  refine ⟨by have := congrArg List.length h1; simpa using this, fun i => ?_⟩
  have h2 := congrArg (fun l => l[i]?) h1
  simp only [List.getElem?_map] at h2
  unfold namesAt
  rw [List.getD_eq_getElem?_getD, List.getD_eq_getElem?_getD]
  cases hx : xs[i]? <;> cases hy : ys[i]? <;> rw [hx, hy] at h2 <;> simp_all

set_option maxRecDepth 100000 in
set_option maxHeartbeats 4000000 in
theorem chg1_any (w : World) (ga gb : Nat) (a b : ShD) (ix kx : Nat) (A A' D E E' G : Option Addr) (n c n' c' m' e p c2 p' c2' r' e2 : Nat) (hba : Blk w ga #[.slice A n c, .slice A' n' c', .slice D m' e] 28) (hbb : Blk w gb #[.slice E p c2, .slice E' p' c2', .slice G r' e2] 28)
    (h : kSh.rd w (.agg #[.slice A n c, .slice A' n' c', .slice D m' e]) a) (h' : kSh.rd w (.agg #[.slice E p c2, .slice E' p' c2', .slice G r' e2]) b) (hok : kSh.ok a) (hok' : kSh.ok b) (hs : sheetB a = true) (hs' : sheetB b = true) (hsame : sameB a.1 b.1 = true) (hi : ix < a.1.length) (hk : kx < (namesAt a.1 ix).length) :
    Calls Try.prog 70 #[.int .i64 ix, .int .i64 kx, .pointer (some ⟨ga, 0, none⟩), .pointer (some ⟨gb, 0, none⟩)] w fun e w' => e = .returned (.bool (chgP a b ix kx)) ∧ Ext w w' := by
  obtain ⟨q1, q2⟩ := same_names hsame
  have CA := hide (fun (wq : World) (xq : Ext w wq) => i.callOf_m wq _ a ix kx (kSh.rd_ext h xq) hok hs hi hk)
  have CB := hide (fun (wq : World) (xq : Ext w wq) => i.callOf_m wq _ b ix kx (kSh.rd_ext h' xq) hok' hs' (by omega) (by rw [← q2]; exact hk))
  have PE : Hid (chgP a b ix kx = (callF a ix kx != callF b ix kx)) := rfl
  rw [PE.out]
  have BA := hide hba
  have BB := hide hbb
  clear h h' hs hs' hsame hi hk q1 q2 hba hbb PE
  generalize callF a ix kx = C1 at *
  generalize callF b ix kx = C2 at *
  have cA := BA.out.cell
  have cB := BB.out.cell
  go_enter Try.func70, Try.ntmps70
  go_wp2
  go_region_held3 (fun w' => (∀ i, w'.cell? ⟨ga, i, none⟩ = #[Value.slice A n c, .slice A' n' c', .slice D m' e][i]?) ∧ ∀ i, w'.cell? ⟨gb, i, none⟩ = #[Value.slice E p c2, .slice E' p' c2', .slice G r' e2][i]?)
    (first | exact ⟨(BA.out.ext Y3.out).cell, (BB.out.ext Y3.out).cell⟩ | exact ⟨(BA.out.ext Y2.out).cell, (BB.out.ext Y2.out).cell⟩ | exact ⟨BA.out.cell, BB.out.cell⟩)
    (first | (go_at_call 44; refine (CB.out w2 Y2.out).mono ?_; rintro e1 w3 ⟨rfl, x3⟩; have Y3 := hide (Y2.out.trans x3); clear x3) | (go_at_call 44; refine (CA.out w.drew (Ext.drew w)).mono ?_; rintro e1 w2 ⟨rfl, x2⟩; have Y2 := hide ((Ext.drew w).trans x2); clear x2))
  all_goals
    go_wp2
    go_ret
    exact ⟨rfl, Y3.out⟩

set_option maxRecDepth 100000 in
set_option maxHeartbeats 8000000 in
theorem i.ChangedCalls_law (w : World) (v v' : Value) (d d2 : ShD) (h : kSh.rd w v d) (hok : kSh.ok d) (h' : kSh.rd w v' d2) (hok' : kSh.ok d2) :
    Calls Try.prog 34 #[v, v'] w fun e w' => ∃ v0, e = .returned (.tuple #[v0, .bool (chgF d d2).2]) ∧ kII.fr w' w.heap.size w'.heap.size v0 (chgF d d2).1 ∧ kII.ok (chgF d d2).1 ∧ Ext w w' := by
  obtain ⟨A, c, A', c', D, e, rfl, h1, _, _⟩ := kSh.lr h
  obtain ⟨E, c2, E', c2', G, e2, rfl, h4, _, _⟩ := kSh.lr h'
  have hw1 : wtL kdItem d.1 ≤ 1048576 := by have q : kdSh.wt d ≤ 1048576 := hok; rw [kdSh.wt_eq] at q; have : kdItS.wt d.1 = wtL kdItem d.1 := rfl; omega
  have hw4 : wtL kdItem d2.1 ≤ 1048576 := by have q : kdSh.wt d2 ≤ 1048576 := hok'; rw [kdSh.wt_eq] at q; have : kdItS.wt d2.1 = wtL kdItem d2.1 := rfl; omega
  have a1 := h1.1; have a2 := h1.2.1
  have HR := hide h
  have HQ := hide h'
  have H1 := hide h1
  have H4 := hide h4
  clear h h1 h' h4
  obtain ⟨n, hn⟩ : ∃ n, Hid (d.1.length = n) := ⟨_, rfl⟩
  obtain ⟨n', hn'⟩ : ∃ n', Hid (d.2.1.length = n') := ⟨_, rfl⟩
  obtain ⟨m', hm'⟩ : ∃ n', Hid (d.2.2.length = n') := ⟨_, rfl⟩
  obtain ⟨p, hp⟩ : ∃ n, Hid (d2.1.length = n) := ⟨_, rfl⟩
  obtain ⟨p', hp'⟩ : ∃ n', Hid (d2.2.1.length = n') := ⟨_, rfl⟩
  obtain ⟨r', hr'⟩ : ∃ n', Hid (d2.2.2.length = n') := ⟨_, rfl⟩
  rw [hn.out] at a1
  rw [hn.out, hn'.out, hm'.out] at HR ⊢
  rw [hp.out, hp'.out, hr'.out] at HQ ⊢
  obtain ⟨W0, hW0⟩ : ∃ W0, Hid (W0 = (w.alloc (.cells #[.slice A n c, .slice A' n' c', .slice D m' e] 28)).alloc (.cells #[.slice E p c2, .slice E' p' c2', .slice G r' e2] 28)) := ⟨_, rfl⟩
  have X : Hid (Ext w W0) := by rw [hW0.out]; exact (Ext.alloc w _).trans (Ext.alloc _ _)
  have B0 : Hid (Blk W0 w.heap.size #[.slice A n c, .slice A' n' c', .slice D m' e] 28) := by rw [hW0.out]; exact (Blk.new rfl _ _).alloc _
  have B9 : Hid (Blk W0 (w.heap.size + 1) #[.slice E p c2, .slice E' p' c2', .slice G r' e2] 28) := by rw [hW0.out]; exact Blk.new (by simp) _ _
  obtain ⟨F, hF⟩ : ∃ F, Hid (chgF d d2 = F) := ⟨_, rfl⟩
  rw [hF.out]
  go_enter Try.func34, Try.ntmps34
  go_wp2_with fail
  rw [← hW0.out]
  clear hW0
  refine (i.IsSheet_m _ _ d (kSh.rd_ext HR.out X.out) hok).mono ?_
  rintro e1 w9 ⟨rfl, x1⟩
  replace X := hide (X.out.trans x1)
  replace B0 := hide (B0.out.ext x1)
  replace B9 := hide (B9.out.ext x1)
  clear x1
  have cB := B0.out.cell; have cD := B9.out.cell
  cases hs : sheetB d
  · have HF : Hid (F = ([], false)) := by show _ = _; rw [← hF.out]; simp [chgF, hs]
    clear hs
    go_wp2
    go_ret2
    rw [HF.out]
    exact ⟨_, rfl, kII.fr_nil _ _ _, Nat.zero_le _, X.out⟩
  have HS := hide hs
  clear hs
  go_wp2_with fail
  refine (i.IsSheet_m _ _ d2 (kSh.rd_ext HQ.out X.out) hok').mono ?_
  rintro e1 w8 ⟨rfl, x1⟩
  replace X := hide (X.out.trans x1)
  replace B0 := hide (B0.out.ext x1)
  replace B9 := hide (B9.out.ext x1)
  clear x1 cB cD
  have cB := B0.out.cell; have cD := B9.out.cell
  cases hs : sheetB d2
  · have HF : Hid (F = ([], false)) := by show _ = _; rw [← hF.out]; simp [chgF, hs]
    clear hs
    go_wp2
    go_ret2
    rw [HF.out]
    exact ⟨_, rfl, kII.fr_nil _ _ _, Nat.zero_le _, X.out⟩
  have HS2 := hide hs
  clear hs
  have SM := i.sameNames_any w8 A E c c2 w.heap.size d.1 d2.1 (H1.out.ext X.out (Nat.le_refl _)) (H4.out.ext X.out (Nat.le_refl _)) X.out.size hw1 hw4
  rw [hn.out, hp.out] at SM
  have SMH := hide SM
  clear SM
  go_wp2_with fail
  refine SMH.out.mono ?_
  rintro e1 w1 ⟨rfl, x1⟩
  replace X := hide (X.out.trans x1)
  replace B0 := hide (B0.out.ext x1)
  replace B9 := hide (B9.out.ext x1)
  clear x1 cB cD SMH
  have cB := B0.out.cell; have cD := B9.out.cell
  cases hs : sameB d.1 d2.1
  · have HF : Hid (F = ([], false)) := by show _ = _; rw [← hF.out]; simp [chgF, hs]
    clear hs
    go_wp2
    go_ret2
    rw [HF.out]
    exact ⟨_, rfl, kII.fr_nil _ _ _, Nat.zero_le _, X.out⟩
  have HSM := hide hs
  have HF : Hid (F = (pairs (chgP d d2) d.1, true)) := by show _ = _; rw [← hF.out]; simp [chgF, HS.out, HS2.out, hs]
  have hit : itemsB d.1 = true := by have h8 := HS.out; simp only [sheetB, cleanB, Bool.and_eq_true] at h8; exact h8.1.1.1.1.1
  have OK := hide (pairs_ok (chgP d d2) hit)
  have HIT := hide hit
  clear hs hit hF
  have hmf : ∀ (fn : Fn) (first cap : Array Value) (w : World), (Instr.makeFunc fn first cap).run Try.prog w = .ok (.func fn first cap) w := fun _ _ _ _ => rfl
  have NWH := namesChg (.pointer (some ⟨w.heap.size, 0, none⟩)) (.pointer (some ⟨w.heap.size + 1, 0, none⟩)) (chgP d d2) w1 A c w.heap.size d.1 (H1.out.ext X.out (Nat.le_refl _)) X.out.size HIT.out
    (fun w' ix kx x' hi hk => chg1_any w' w.heap.size (w.heap.size + 1) d d2 ix kx A A' D E E' G n c n' c' m' e p c2 p' c2' r' e2 (B0.out.ext x') (B9.out.ext x') (kSh.rd_ext HR.out (X.out.trans x')) (kSh.rd_ext HQ.out (X.out.trans x')) hok hok' HS.out HS2.out HSM.out hi hk)
  rw [hn.out] at NWH
  have NH := hide NWH
  clear NWH
  go_wp2_with fail
  refine NH.out.mono ?_
  rintro e1 w2 ⟨A9, c9, fp, rfl, hl, hf, x2⟩
  have hcap := hl.cap
  have z := X.out.size
  have FR := hide (kII.of_LO (lo := w.heap.size) hl (fun i hi => by have := hf i hi; omega) rfl)
  replace X := hide (X.out.trans x2)
  clear hl hf x2 cB cD
  obtain ⟨L, hL⟩ : ∃ L, Hid ((pairs (chgP d d2) d.1).length = L) := ⟨_, rfl⟩
  rw [hL.out] at hcap FR ⊢
  go_wp2
  go_ret2
  rw [HF.out]
  exact ⟨_, rfl, FR.out, OK.out, X.out⟩

set_option maxRecDepth 100000 in
set_option maxHeartbeats 8000000 in
theorem s.ChangedCalls_law (w : World) (v v' : Value) (d d2 : ShD) (h : kSh.rd w v d) (hok : kSh.ok d) (h' : kSh.rd w v' d2) (hok' : kSh.ok d2) :
    Calls Try.prog 35 #[v, v'] w fun e w' => ∃ v0, e = .returned (.tuple #[v0, .bool (chgF d d2).2]) ∧ kII.fr w' w.heap.size w'.heap.size v0 (chgF d d2).1 ∧ kII.ok (chgF d d2).1 ∧ Ext w w' := by
  obtain ⟨A, c, A', c', D, e, rfl, h1, _, _⟩ := kSh.lr h
  obtain ⟨E, c2, E', c2', G, e2, rfl, h4, _, _⟩ := kSh.lr h'
  have hw1 : wtL kdItem d.1 ≤ 1048576 := by have q : kdSh.wt d ≤ 1048576 := hok; rw [kdSh.wt_eq] at q; have : kdItS.wt d.1 = wtL kdItem d.1 := rfl; omega
  have hw4 : wtL kdItem d2.1 ≤ 1048576 := by have q : kdSh.wt d2 ≤ 1048576 := hok'; rw [kdSh.wt_eq] at q; have : kdItS.wt d2.1 = wtL kdItem d2.1 := rfl; omega
  have a1 := h1.1; have a2 := h1.2.1
  have HR := hide h
  have HQ := hide h'
  have H1 := hide h1
  have H4 := hide h4
  clear h h1 h' h4
  obtain ⟨n, hn⟩ : ∃ n, Hid (d.1.length = n) := ⟨_, rfl⟩
  obtain ⟨n', hn'⟩ : ∃ n', Hid (d.2.1.length = n') := ⟨_, rfl⟩
  obtain ⟨m', hm'⟩ : ∃ n', Hid (d.2.2.length = n') := ⟨_, rfl⟩
  obtain ⟨p, hp⟩ : ∃ n, Hid (d2.1.length = n) := ⟨_, rfl⟩
  obtain ⟨p', hp'⟩ : ∃ n', Hid (d2.2.1.length = n') := ⟨_, rfl⟩
  obtain ⟨r', hr'⟩ : ∃ n', Hid (d2.2.2.length = n') := ⟨_, rfl⟩
  rw [hn.out] at a1
  rw [hn.out, hn'.out, hm'.out] at HR ⊢
  rw [hp.out, hp'.out, hr'.out] at HQ ⊢
  obtain ⟨W0, hW0⟩ : ∃ W0, Hid (W0 = (w.alloc (.cells #[.slice A n c, .slice A' n' c', .slice D m' e] 28)).alloc (.cells #[.slice E p c2, .slice E' p' c2', .slice G r' e2] 28)) := ⟨_, rfl⟩
  have X : Hid (Ext w W0) := by rw [hW0.out]; exact (Ext.alloc w _).trans (Ext.alloc _ _)
  have B0 : Hid (Blk W0 w.heap.size #[.slice A n c, .slice A' n' c', .slice D m' e] 28) := by rw [hW0.out]; exact (Blk.new rfl _ _).alloc _
  have B9 : Hid (Blk W0 (w.heap.size + 1) #[.slice E p c2, .slice E' p' c2', .slice G r' e2] 28) := by rw [hW0.out]; exact Blk.new (by simp) _ _
  obtain ⟨F, hF⟩ : ∃ F, Hid (chgF d d2 = F) := ⟨_, rfl⟩
  rw [hF.out]
  go_enter Try.func35, Try.ntmps35
  go_wp2_with fail
  rw [← hW0.out]
  clear hW0
  refine (s.caGood_m _ _ d (kSh.rd_ext HR.out X.out) hok).mono ?_
  rintro e1 w9 ⟨rfl, x1⟩
  replace X := hide (X.out.trans x1)
  replace B0 := hide (B0.out.ext x1)
  replace B9 := hide (B9.out.ext x1)
  clear x1
  have cB := B0.out.cell; have cD := B9.out.cell
  cases hs : sheetB d
  · have HF : Hid (F = ([], false)) := by show _ = _; rw [← hF.out]; simp [chgF, hs]
    clear hs
    go_wp2
    go_ret2
    rw [HF.out]
    exact ⟨_, rfl, kII.fr_nil _ _ _, Nat.zero_le _, X.out⟩
  have HS := hide hs
  clear hs
  go_wp2_with fail
  refine (s.caGood_m _ _ d2 (kSh.rd_ext HQ.out X.out) hok').mono ?_
  rintro e1 w8 ⟨rfl, x1⟩
  replace X := hide (X.out.trans x1)
  replace B0 := hide (B0.out.ext x1)
  replace B9 := hide (B9.out.ext x1)
  clear x1 cB cD
  have cB := B0.out.cell; have cD := B9.out.cell
  cases hs : sheetB d2
  · have HF : Hid (F = ([], false)) := by show _ = _; rw [← hF.out]; simp [chgF, hs]
    clear hs
    go_wp2
    go_ret2
    rw [HF.out]
    exact ⟨_, rfl, kII.fr_nil _ _ _, Nat.zero_le _, X.out⟩
  have HS2 := hide hs
  clear hs
  have SM := s.itSame_any w8 A E c c2 w.heap.size d.1 d2.1 (H1.out.ext X.out (Nat.le_refl _)) (H4.out.ext X.out (Nat.le_refl _)) X.out.size hw1 hw4
  rw [hn.out, hp.out] at SM
  have SMH := hide SM
  clear SM
  go_wp2_with fail
  refine SMH.out.mono ?_
  rintro e1 w1 ⟨rfl, x1⟩
  replace X := hide (X.out.trans x1)
  replace B0 := hide (B0.out.ext x1)
  replace B9 := hide (B9.out.ext x1)
  clear x1 cB cD SMH
  have cB := B0.out.cell; have cD := B9.out.cell
  cases hs : sameB d.1 d2.1
  · have HF : Hid (F = ([], false)) := by show _ = _; rw [← hF.out]; simp [chgF, hs]
    clear hs
    go_wp2
    go_ret2
    rw [HF.out]
    exact ⟨_, rfl, kII.fr_nil _ _ _, Nat.zero_le _, X.out⟩
  have HSM := hide hs
  have HF : Hid (F = (pairs (chgP d d2) d.1, true)) := by show _ = _; rw [← hF.out]; simp [chgF, HS.out, HS2.out, hs]
  have hit : itemsB d.1 = true := by have h8 := HS.out; simp only [sheetB, cleanB, Bool.and_eq_true] at h8; exact h8.1.1.1.1.1
  have OK := hide (pairs_ok (chgP d d2) hit)
  have HIT := hide hit
  clear hs hit hF
  have z1 : w.heap.size + 1 < w1.heap.size := B9.out.lt
  have HC := hide (fun (w2 : World) (i k : Nat) (x2 : Ext w w2) (hi : i < d.1.length) (hk : k < (namesAt d.1 i).length) => And.intro (s.caCall_m w2 _ d i k (kSh.rd_ext HR.out x2) hok HS.out hi hk) (s.caCall_m w2 _ d2 i k (kSh.rd_ext HQ.out x2) hok' HS2.out (by rw [← (same_names HSM.out).1]; exact hi) (by rw [← (same_names HSM.out).2]; exact hk)))
  have H := H1
  have N3 := hide (names_three HIT.out)
  have n1 : d.1.length ≤ 14 := by have h8 := HIT.out; simp [itemsB] at h8; omega
  rw [hn.out] at n1 HC
  have HPP : Hid (∀ i k, chgP d d2 i k = (callF d i k != callF d2 i k)) := fun i k => rfl
  obtain ⟨xs, hxs⟩ : ∃ xs, Hid (d.1 = xs) := ⟨_, rfl⟩
  obtain ⟨P, hP⟩ : ∃ P, Hid (chgP d d2 = P) := ⟨_, rfl⟩
  rw [hxs.out, hP.out] at HF OK
  rw [hxs.out] at hn H N3 HC
  rw [hP.out] at HPP
  obtain ⟨BX, hBX⟩ : ∃ BX : Array Value, Hid (BX = #[.slice A n c, .slice A' n' c', .slice D m' e]) := ⟨_, rfl⟩
  obtain ⟨BY, hBY⟩ : ∃ BY : Array Value, Hid (BY = #[.slice E p c2, .slice E' p' c2', .slice G r' e2]) := ⟨_, rfl⟩
  clear H1 H4 HQ HR
  go_wp2
  rw [← hBX.out] at B0
  rw [← hBY.out] at B9
  clear cB cD
  go_loopw [6, 29] (fun o i wr => ∃ (ix : Nat) (A' : Option Addr) (c' : Nat) (fp : List Nat), ix ≤ n ∧ i = .int .i64 ix ∧ o = .slice A' (pairsN P xs ix).length c' ∧ LO kdL 42 wr A' c' (pairsN P xs ix) fp ∧ (∀ i ∈ fp, w.heap.size + 2 ≤ i) ∧ Blk wr w.heap.size BX 28 ∧ Blk wr (w.heap.size + 1) BY 28 ∧ Ext w wr) (fun _ i _ => n - (intOf i).toNat)
  case atStart => exact ⟨0, none, 0, [], Nat.zero_le _, rfl, rfl, LO.none_, by simp, B0.out, B9.out, X.out⟩
  case round =>
    obtain ⟨ix, A1, c1, fp, hk, rfl, rfl, hown, hfp, hb0, hb9, hx⟩ := hrel
    clear X B0 B9
    have HO := hide hown
    have HF0 := hide hfp
    have X := hide hx
    have B0 := hide hb0
    have B9 := hide hb9
    clear hb0 hb9
    clear hown hfp hx
    by_cases hlt : ix < n
    · obtain ⟨x, hxk⟩ : ∃ x, Hid (xs[ix]? = some x) := ⟨_, List.getElem?_eq_getElem (by rw [hn.out]; exact hlt)⟩
      obtain ⟨b, off, A3, c3, A4, c4, rfl, hb, q0, q1, q2, r1, r2⟩ := (H.out.ext X.out (Nat.le_refl _)).item ix x hxk.out
      have NM := hide (namesAt_some hxk.out)
      have PS := hide (pairsN_succ P xs ix)
      have l3 := N3.out ix
      have ln := pairsN_len P xs N3.out ix
      have CL := hide (fun (w2 : World) (k : Nat) (x2 : Ext w w2) (hk : k < (namesAt xs ix).length) => HC.out w2 ix k x2 hlt hk)
      rw [NM.out] at l3 PS CL
      clear r1 r2 NM
      obtain ⟨m, hm⟩ : ∃ m, Hid (x.1.length = m) := ⟨_, rfl⟩
      rw [hm.out] at l3 PS CL q0
      obtain ⟨W1, hW1⟩ : ∃ W1, Hid (W1 = wr.alloc (.cells #[.slice A3 m c3, .slice A4 x.2.1.length c4, .bool x.2.2] 50)) := ⟨_, rfl⟩
      have x1 : Ext wr W1 := by rw [hW1.out]; exact Ext.alloc _ _
      have sz1 := X.out.size
      replace X := hide (X.out.trans x1)
      replace HO := hide (HO.out.ext x1)
      replace B0 := hide (B0.out.ext x1)
      replace B9 := hide (B9.out.ext x1)
      generalize hpl : pairsN P xs ix = pl at *
      clear x1 hpl
      generalize x.2.1.length = m1 at *
      generalize x.2.2 = m2 at *
      go_wp2
      rw [← hW1.out]
      clear hW1 q0 q1 q2
      go_loopw [6, 37] (fun o i wr => ∃ (k : Nat) (A' : Option Addr) (c' : Nat) (fp : List Nat), k ≤ m ∧ i = .int .i64 k ∧ o = .slice A' (pl ++ rowP P ix k).length c' ∧ LO kdL 42 wr A' c' (pl ++ rowP P ix k) fp ∧ (∀ i ∈ fp, w.heap.size + 2 ≤ i) ∧ Blk wr w.heap.size BX 28 ∧ Blk wr (w.heap.size + 1) BY 28 ∧ Ext w wr) (fun _ i _ => m - (intOf i).toNat)
      case atStart => exact ⟨0, A1, c1, fp, Nat.zero_le _, rfl, by simp [rowP], by simpa [rowP] using HO.out, HF0.out, B0.out, B9.out, X.out⟩
      case round =>
        obtain ⟨k, A5, c5, fq, hk5, rfl, rfl, hown, hfp, hb0, hb9, hx⟩ := hrel
        clear X HO HF0 B0 B9
        have HO := hide hown
        have HF0 := hide hfp
        have X := hide hx
        have B0 := hide hb0
        have B9 := hide hb9
        clear hb0 hb9
        clear hown hfp hx
        by_cases hltk : k < m
        · have CK := hide (CL.out wr k X.out hltk)
          have RS := hide (rowP_succ P ix k)
          have rl := rowP_len P ix k
          have hcap := HO.out.cap
          have LN : Hid ((pl ++ rowP P ix k).length ≤ 100) := by show _ ≤ _; rw [List.length_append]; omega
          generalize hpr : pl ++ rowP P ix k = pr at *
          have HPR := hide hpr
          clear hpr rl
          obtain ⟨L, hL⟩ : ∃ L, Hid (pr.length = L) := ⟨_, rfl⟩
          rw [hL.out] at hcap LN
          rw [hL.out]
          have hL1 : L ≤ 100 := LN.out
          clear LN
          obtain ⟨pb, hpb⟩ : ∃ pb, Hid (P ix k = pb) := ⟨_, rfl⟩
          rw [hpb.out] at RS
          have CA := hide (fun (wq : World) (xq : Ext w wq) => (CL.out wq k xq hltk).1)
          have CB := hide (fun (wq : World) (xq : Ext w wq) => (CL.out wq k xq hltk).2)
          have PB : Hid ((callF d ix k != callF d2 ix k) = pb) := (HPP.out ix k).symm.trans hpb.out
          clear CK hpb
          generalize callF d ix k = cl1 at *
          generalize callF d2 ix k = cl2 at *
          have cB := B0.out.cell
          rw [hBX.out] at cB
          have cD := B9.out.cell
          rw [hBY.out] at cD
          go_wp2
          go_region_held3 (fun w' => (∀ i, w'.cell? ⟨w.heap.size, i, none⟩ = #[Value.slice (some ⟨b, off, none⟩) n c, .slice A' n' c', .slice D m' e][i]?) ∧ ∀ i, w'.cell? ⟨w.heap.size + 1, i, none⟩ = #[Value.slice E p c2, .slice E' p' c2', .slice G r' e2][i]?)
            (first | exact ⟨fun i => by rw [← hBX.out]; exact (B0.out.ext Y6.out).cell i, fun i => by rw [← hBY.out]; exact (B9.out.ext Y6.out).cell i⟩ | exact ⟨fun i => by rw [← hBX.out]; exact (B0.out.ext Y5.out).cell i, fun i => by rw [← hBY.out]; exact (B9.out.ext Y5.out).cell i⟩ | exact ⟨cB, cD⟩)
            (first | (go_at_call 66; refine (CB.out w5 (X.out.trans Y5.out)).mono ?_; rintro e1 w2 ⟨rfl, x6⟩; have Y6 := hide (Y5.out.trans x6); clear x6) | (go_at_call 66; refine (CA.out wr.drew (X.out.trans (Ext.drew wr))).mono ?_; rintro e1 w5 ⟨rfl, x5⟩; have Y5 := hide ((Ext.drew wr).trans x5); clear x5))
          replace X := hide (X.out.trans Y6.out)
          replace HO := hide (HO.out.ext Y6.out)
          replace B0 := hide (B0.out.ext Y6.out)
          replace B9 := hide (B9.out.ext Y6.out)
          clear Y5 Y6 cB cD CA CB
          have hcl := PB.out
          clear PB
          cases pb
          · replace RS : Hid (pl ++ rowP P ix (k + 1) = pr) := by show _ = _; rw [RS.out, ← HPR.out]; simp
            go_wp2
            go_roundw
            case rel => exact ⟨k + 1, A5, c5, fq, by omega, by go_num, by rw [RS.out, hL.out], by rw [RS.out]; exact HO.out, HF0.out, B0.out, B9.out, X.out⟩
            case measure => simp [intOf]; omega
          · replace RS : Hid (pl ++ rowP P ix (k + 1) = pr ++ [[(ix : Int), (k : Int)]]) := by show _ = _; rw [RS.out, ← HPR.out]; simp
            have KO := hide (pair_own w2 ix k)
            have LT := hide HO.out.lt
            have LO1 := hide ((HO.out.ext (Ext.alloc w2 (.cells #[.int .i64 ix, .int .i64 k] 3))).ext (Ext.alloc _ (.cells #[.slice (some ⟨w2.heap.size, 0, none⟩) 2 2] 42)))
            have KO1 := hide (kdL.own_ext KO.out (Ext.alloc _ (.cells #[.slice (some ⟨w2.heap.size, 0, none⟩) 2 2] 42)))
            have XA : Hid (Ext w2 ((w2.alloc (.cells #[.int .i64 ix, .int .i64 k] 3)).alloc (.cells #[.slice (some ⟨w2.heap.size, 0, none⟩) 2 2] 42))) := (Ext.alloc _ _).trans (Ext.alloc _ _)
            have D2 := hide (row_srcL (w2.alloc (.cells #[.int .i64 ix, .int .i64 k] 3)) (.slice (some ⟨w2.heap.size, 0, none⟩) 2 2) 42 (w2.heap.size + 1) (by simp))
            have b1 : (L + 1) * 24 ≤ 140737488355328 := by omega
            have b2 : L + 1 ≤ 4611686018427387904 := by omega
            clear KO
            go_wp2_with (at_builtin; refine wpList_append_LO (K := kdL) rfl (.tmp 49) (.tmp 53) rfl elemN_row (by decide) hL.out.symm rfl rfl LO1.out KO1.out ?d1 D2.out b1 b2 ?_)
            case d1 => intro i hi hm; simp at hi; have := LT.out i hm; omega
            intro A7 c7 w7 fp7 hap
            have HA := hide hap
            clear hap
            go_wp2
            go_roundw
            case rel =>
              have sx := X.out.size
              have xs2 := XA.out.size
              refine ⟨k + 1, A7, c7, fp7, by omega, by go_num, by rw [RS.out, List.length_append, hL.out]; rfl, by rw [RS.out]; exact HA.out.own, fun i hi => ?_, ((B0.out.ext XA.out).tchF HA.out.tch (fun h => by have := HF0.out _ h; omega)), ((B9.out.ext XA.out).tchF HA.out.tch (fun h => by have := HF0.out _ h; omega)), (X.out.trans XA.out).tchF HA.out.tch (fun i hi => by have := HF0.out i hi; omega)⟩
              rcases HA.out.sub i hi with h | h | h
              · exact HF0.out i h
              · simp at h; have := B9.out.lt; omega
              · rw [h]; have := B9.out.lt; omega
            case measure => simp [intOf]; omega
        · have ek : m = k := by omega
          subst ek
          rw [← PS.out] at *
          go_wp2
          go_roundw
          case rel => exact ⟨ix + 1, A5, c5, fq, by omega, by go_num, rfl, HO.out, HF0.out, B0.out, B9.out, X.out⟩
          case measure => simp [intOf]; omega
    · have ek : n = ix := by omega
      subst ek
      have FR := hide (kII.of_LO (lo := w.heap.size) HO.out (fun i hi => by have := HF0.out i hi; omega) rfl)
      have PE : Hid (pairsN P xs n = pairs P xs) := by show _ = _; rw [pairs, hn.out]
      rw [PE.out] at FR ⊢
      have hcap := HO.out.cap
      rw [PE.out] at hcap
      obtain ⟨L9, hL9⟩ : ∃ L9, Hid ((pairs P xs).length = L9) := ⟨_, rfl⟩
      rw [hL9.out] at FR hcap ⊢
      go_wp2
      go_ret2
      rw [HF.out]
      exact ⟨_, rfl, FR.out, OK.out, X.out⟩

end Go.Proofs.Ytofmfagdaiphaaa

/- Items with their calls: the plain part, and the program's function. -/
namespace Go.Proofs.Ytofmfagdaiphaaa
open Go.RowKit Go.Sort
set_option linter.unusedVariables false

def calIt (d : ShD) (i : Nat) (x : ItD) : ItD := (x.1, (List.range x.2.1.length).map (callF d i), x.2.2)
def calN (d : ShD) (k : Nat) : List ItD := (d.1.mapIdx (calIt d)).take k ++ d.1.drop k
def calF (d : ShD) : List ItD := d.1.mapIdx (calIt d)
theorem calN_zero (d : ShD) : calN d 0 = d.1 := by simp [calN]
theorem calN_all (d : ShD) (k : Nat) (h : d.1.length ≤ k) : calN d k = calF d := by
  unfold calN calF
  rw [List.take_of_length_le (by simpa using h), List.drop_eq_nil_of_le h, List.append_nil]
theorem calN_len (d : ShD) (k : Nat) : (calN d k).length = d.1.length := by simp [calN]; omega
theorem calN_at (d : ShD) (k : Nat) (h : k < d.1.length) : (calN d k)[k]? = d.1[k]? := by
  have e : ((d.1.mapIdx (calIt d)).take k).length = k := by simp; omega
  unfold calN
  rw [List.getElem?_append_right (by omega), e, Nat.sub_self, List.getElem?_drop, Nat.add_zero]
theorem calN_set (d : ShD) (k : Nat) (x : ItD) (hx : d.1[k]? = some x) : (calN d k).set k (calIt d k x) = calN d (k + 1) := by
  obtain ⟨hk, rfl⟩ := List.getElem?_eq_some_iff.1 hx
  have e : ((d.1.mapIdx (calIt d)).take k).length = k := by simp; omega
  unfold calN
  rw [List.set_append_right _ _ (by omega), e, Nat.sub_self, List.drop_eq_getElem_cons hk, List.set_cons_zero, List.take_succ_eq_append_getElem (by simpa using hk), List.append_assoc]
  simp
def pM (d : ShD) (i : Nat) (ms : List Int) (j : Nat) : List Int := (List.range j).map (callF d i) ++ ms.drop j
theorem pM_zero (d : ShD) (i : Nat) (ms : List Int) : pM d i ms 0 = ms := by simp [pM]
theorem pM_len (d : ShD) (i : Nat) (ms : List Int) (j : Nat) (h : j ≤ ms.length) : (pM d i ms j).length = ms.length := by simp [pM]; omega
theorem pM_all (d : ShD) (i : Nat) (ms : List Int) : pM d i ms ms.length = (List.range ms.length).map (callF d i) := by simp [pM]
theorem pM_set (d : ShD) (i : Nat) (ms : List Int) (j : Nat) (h : j < ms.length) : (pM d i ms j).set j (callF d i j) = pM d i ms (j + 1) := by
  have e : ((List.range j).map (callF d i)).length = j := by simp
  unfold pM
  rw [List.set_append_right _ _ (by omega), e, Nat.sub_self, List.drop_eq_getElem_cons h, List.set_cons_zero, List.range_succ, List.map_append, List.append_assoc]
  rfl
def calledF (d : ShD) : List ItD × Bool := if sheetB d && decide ((pairs (openP d) d.1).length = 0) then (calF d, true) else ([], false)
end Go.Proofs.Ytofmfagdaiphaaa

/- Items with their calls: the program's and the reference's function. -/
namespace Go.Proofs.Ytofmfagdaiphaaa
open Go.RowKit Go.Sort
set_option linter.unusedVariables false

def calJ (d : ShD) (k : Nat) (x : ItD) (j : Nat) : List ItD := (calN d k).set k (x.1, pM d k x.2.1 j, x.2.2)
theorem calJ_at (d : ShD) (k : Nat) (x : ItD) (j : Nat) (h : k < d.1.length) : (calJ d k x j)[k]? = some (x.1, pM d k x.2.1 j, x.2.2) := by
  unfold calJ
  rw [List.getElem?_set_self (by rw [calN_len]; exact h)]
theorem calJ_zero (d : ShD) (k : Nat) (x : ItD) (h : d.1[k]? = some x) : calJ d k x 0 = calN d k := by
  obtain ⟨hk, e⟩ := List.getElem?_eq_some_iff.1 h
  have h2 := calN_at d k hk
  rw [h] at h2
  obtain ⟨hk2, e2⟩ := List.getElem?_eq_some_iff.1 h2
  unfold calJ
  rw [pM_zero]
  conv => rhs; rw [← List.set_getElem_self hk2]
  rw [e2]
theorem calJ_all (d : ShD) (k : Nat) (x : ItD) (h : d.1[k]? = some x) (j : Nat) (hj : j = x.2.1.length) : calJ d k x j = calN d (k + 1) := by
  subst hj
  rw [← calN_set d k x h]
  unfold calJ calIt
  rw [pM_all]
theorem calJ_set (d : ShD) (k : Nat) (x : ItD) (j : Nat) (h : j < x.2.1.length) : (calJ d k x j).set k (x.1, (pM d k x.2.1 j).set j (callF d k j), x.2.2) = calJ d k x (j + 1) := by
  unfold calJ
  rw [List.set_set, pM_set d k _ j h]
theorem LO.headI {e : TypeId} {w : World} {A : Option Addr} {c : Nat} {xs : List ItD} {fp : List Nat} (h : LO kdItem e w A c xs fp) (k : Nat) (x : ItD) (hx : xs[k]? = some x) (hj : 0 < x.2.1.length) :
    ∃ g A1 c1 gx c2, A = some ⟨g, 0, none⟩ ∧ g ∈ fp ∧ w.cell? ⟨g, k * 3, none⟩ = some (.slice A1 x.1.length c1) ∧ w.cell? ⟨g, k * 3 + 1, none⟩ = some (.slice (some ⟨gx, 0, none⟩) x.2.1.length c2) ∧ w.cell? ⟨g, k * 3 + 2, none⟩ = some (.bool x.2.2) ∧ x.2.1.length ≤ c2 ∧ c2 ≤ 9223372036854775807 := by
  obtain ⟨g, A1, c1, gx, c2, e1, e2, _, _, e5, e6, e7, e8, e9, _⟩ := h.spotI k x hx 0 hj
  exact ⟨g, A1, c1, gx, c2, e1, e2, e5, e6, e7, e8, e9⟩
theorem LO.spotG {e : TypeId} {w : World} {g c m c2 gx : Nat} {xs : List ItD} {fp : List Nat} (h : LO kdItem e w (some ⟨g, 0, none⟩) c xs fp) (k : Nat) (x : ItD) (hx : xs[k]? = some x) (j : Nat) (hj : j < x.2.1.length) (hc : w.cell? ⟨g, k * 3 + 1, none⟩ = some (.slice (some ⟨gx, 0, none⟩) m c2)) :
    gx ∈ fp ∧ gx ≠ g ∧ w.cell? ⟨gx, j, none⟩ = some (.int .i64 (x.2.1.getD j 0)) ∧ w.frozen? ⟨gx, j, none⟩ = false ∧ ∀ z, LO kdItem e (w.setCell ⟨gx, j, none⟩ (.int .i64 z)) (some ⟨g, 0, none⟩) c (xs.set k (x.1, x.2.1.set j z, x.2.2)) fp := by
  obtain ⟨g', A1, c1, gx', c2', e1, e2, e3, e4, e5, e6, e7, e8, e9, e10, e11, e12⟩ := h.spotI k x hx j hj
  simp only [Option.some.injEq, Addr.mk.injEq, and_true] at e1
  subst e1
  rw [hc] at e6
  simp at e6
  obtain ⟨rfl, _⟩ := e6
  exact ⟨e3, e4, e10, e11, e12⟩

set_option maxRecDepth 100000 in
set_option maxHeartbeats 4000000 in
theorem i.calledItems_m (w : World) (v : Value) (d : ShD) (h : kSh.rd w v d) (hok : kSh.ok d) (hs : sheetB d = true) :
    Calls Try.prog 59 #[v] w fun e w' => ∃ A' c' fp, e = .returned (.slice A' d.1.length c') ∧ LO kdItem 50 w' A' c' (calF d) fp ∧ (∀ i ∈ fp, w.heap.size ≤ i) ∧ Ext w w' := by
  obtain ⟨A, c, A', c', D, e, rfl, h1, h2, h3⟩ := kSh.lr h
  have hok' : kdSh.wt d ≤ 1048576 := hok
  rw [kdSh.wt_eq] at hok'
  have hw1 : wtL kdItem d.1 ≤ 1048576 := by have : kdItS.wt d.1 = wtL kdItem d.1 := rfl; omega
  have hit : itemsB d.1 = true := by simp only [sheetB, cleanB, Bool.and_eq_true] at hs; exact hs.1.1.1.1.1
  have IT : Hid (∀ (k : Nat) (x : ItD), d.1[k]? = some x → 1 ≤ x.1.length ∧ x.1.length ≤ 3 ∧ x.2.1.length = x.1.length) := fun k x hx => by
    simp only [itemsB, Bool.and_eq_true, List.all_eq_true] at hit
    exact itemB_ok (hit.1 x (List.mem_of_getElem? hx))
  have k14 : d.1.length ≤ 14 := by simp only [itemsB, Bool.and_eq_true, decide_eq_true_eq] at hit; omega
  have CL : Hid (∀ (wq : World) (ix kx : Nat) (x : ItD), Ext w wq → d.1[ix]? = some x → kx < x.1.length → Calls Try.prog 44 #[.agg #[.slice A d.1.length c, .slice A' d.2.1.length c', .slice D d.2.2.length e], .int .i64 ix, .int .i64 kx] wq fun e w' => e = .returned (.int .i64 (callF d ix kx)) ∧ Ext wq w') := fun wq ix kx x xq hx hk => by
    obtain ⟨hi, _⟩ := List.getElem?_eq_some_iff.1 hx
    exact i.callOf_m wq _ d ix kx (kSh.rd_ext h xq) hok hs hi (by rw [namesAt_some hx]; exact hk)
  have CI := hide (fun (wq : World) (xq : Ext w wq) => i.copyItems_any wq A c w.heap.size d.1 (h1.ext xq (Nat.le_refl _)) xq.size hw1)
  have a1 := h1.1; have a2 := h1.2.1
  clear h h1 h2 h3 hok' hw1 hs hit
  obtain ⟨n, hn⟩ : ∃ n, Hid (d.1.length = n) := ⟨_, rfl⟩
  obtain ⟨n', hn'⟩ : ∃ n', Hid (d.2.1.length = n') := ⟨_, rfl⟩
  obtain ⟨m', hm'⟩ : ∃ n', Hid (d.2.2.length = n') := ⟨_, rfl⟩
  rw [hn.out] at a1 k14
  rw [hn.out] at CI
  rw [hn.out, hn'.out, hm'.out] at CL
  rw [hn.out, hn'.out, hm'.out]
  obtain ⟨W0, hW0⟩ : ∃ W0, Hid (W0 = w.alloc (.cells #[.slice A n c, .slice A' n' c', .slice D m' e] 28)) := ⟨_, rfl⟩
  have X : Hid (Ext w W0) := by rw [hW0.out]; exact Ext.alloc w _
  have B0 : Hid (Blk W0 w.heap.size #[.slice A n c, .slice A' n' c', .slice D m' e] 28) := by rw [hW0.out]; exact Blk.new rfl _ _
  have cBn : ∀ i, (w.alloc (.cells #[.slice A n c, .slice A' n' c', .slice D m' e] 28)).cell? ⟨w.heap.size, i, none⟩ = #[Value.slice A n c, .slice A' n' c', .slice D m' e][i]? := by rw [← hW0.out]; exact B0.out.cell
  go_enter Try.func59, Try.ntmps59
  go_wp2_with fail
  rw [← hW0.out]
  clear hW0 cBn
  refine (CI.out W0 X.out).mono ?_
  rintro e1 w2 ⟨A9, c9, fp, rfl, hl, hf, x2⟩
  have hcap := hl.cap
  rw [hn.out] at hcap
  have HL := hide hl
  have z0 := B0.out.lt
  have HFP : Hid (∀ i ∈ fp, w.heap.size < i) := fun i hi => Nat.lt_of_lt_of_le z0 (hf i hi)
  replace X := hide (X.out.trans x2)
  replace B0 := hide (B0.out.ext x2)
  clear hl hf x2 CI z0
  go_wp2
  go_loopw [12] (fun i0 wr => ∃ (k : Nat), k ≤ n ∧ i0 = .int .i64 k ∧ LO kdItem 50 wr A9 c9 (calN d k) fp ∧ Blk wr w.heap.size #[.slice A n c, .slice A' n' c', .slice D m' e] 28 ∧ Ext w wr) (fun i0 _ => n - (intOf i0).toNat)
  case atStart => exact ⟨0, Nat.zero_le _, rfl, by rw [calN_zero]; exact HL.out, B0.out, X.out⟩
  case round =>
    obtain ⟨k, hk, rfl, hl, hb, hx⟩ := hrel
    clear HL B0 X
    have HL := hide hl
    have B0 := hide hb
    have X := hide hx
    clear hl hb hx
    by_cases hlt : k < n
    · obtain ⟨x, hxk⟩ : ∃ x, Hid (d.1[k]? = some x) := ⟨_, List.getElem?_eq_getElem (by rw [hn.out]; exact hlt)⟩
      obtain ⟨y1, y2, y3⟩ := IT.out k x hxk.out
      obtain ⟨g, A1, c1, gx, c2, rfl, hg, q0, q1, q2, q3, q4⟩ := HL.out.headI k x (by rw [calN_at d k (by rw [hn.out]; exact hlt), hxk.out]) (by omega)
      obtain ⟨W1, hW1⟩ : ∃ W1, Hid (W1 = wr.alloc (.cells #[.slice A1 x.1.length c1, .slice (some ⟨gx, 0, none⟩) x.2.1.length c2, .bool x.2.2] 50)) := ⟨_, rfl⟩
      have x1 : Ext wr W1 := by rw [hW1.out]; exact Ext.alloc _ _
      have BV : Hid (Blk W1 wr.heap.size #[.slice A1 x.1.length c1, .slice (some ⟨gx, 0, none⟩) x.2.1.length c2, .bool x.2.2] 50) := by rw [hW1.out]; exact Blk.new rfl _ _
      have HC : Hid (W1.cell? ⟨g, k * 3 + 1, none⟩ = some (.slice (some ⟨gx, 0, none⟩) x.2.1.length c2)) := (x1.cell (HL.out.lt g hg)).trans q1
      have LT := hide HL.out.lt
      have gvp : w.heap.size < wr.heap.size := B0.out.lt
      have cBn : ∀ i, (wr.alloc (.cells #[.slice A1 x.1.length c1, .slice (some ⟨gx, 0, none⟩) x.2.1.length c2, .bool x.2.2] 50)).cell? ⟨wr.heap.size, i, none⟩ = #[Value.slice A1 x.1.length c1, .slice (some ⟨gx, 0, none⟩) x.2.1.length c2, .bool x.2.2][i]? := by rw [← hW1.out]; exact BV.out.cell
      have J0 := hide (calJ_zero d k x hxk.out)
      have JA := hide (calJ_all d k x hxk.out)
      have JT := hide (fun (j : Nat) => calJ_at d k x j (by rw [hn.out]; exact hlt))
      have JS := hide (fun (j : Nat) => calJ_set d k x j)
      have PL := hide (fun (j : Nat) => pM_len d k x.2.1 j)
      replace HL := hide (HL.out.ext x1)
      replace B0 := hide (B0.out.ext x1)
      replace X := hide (X.out.trans x1)
      clear x1
      obtain ⟨m, hm⟩ : ∃ m, Hid (x.2.1.length = m) := ⟨_, rfl⟩
      rw [hm.out] at q1 q3 y3 BV HC hW1 cBn JS PL JA
      have CK := hide (fun (wq : World) (kx : Nat) (xq : Ext w wq) (hk : kx < m) => CL.out wq k kx x xq hxk.out (by omega))
      have y4 : m ≤ 3 := by omega
      clear y3
      generalize x.1.length = m1 at *
      generalize x.2.2 = m3 at *
      go_wp2
      rw [← hW1.out]
      clear hW1 cBn q0 q1 q2
      obtain ⟨gv, hgv⟩ : ∃ gv, Hid (gv = wr.heap.size) := ⟨_, rfl⟩
      rw [← hgv.out] at BV LT gvp ⊢
      go_loopw [20] (fun j0 wq => ∃ (j : Nat), j ≤ m ∧ j0 = .int .i64 j ∧ LO kdItem 50 wq (some ⟨g, 0, none⟩) c9 (calJ d k x j) fp ∧ wq.cell? ⟨g, k * 3 + 1, none⟩ = some (.slice (some ⟨gx, 0, none⟩) m c2) ∧ Blk wq gv #[.slice A1 m1 c1, .slice (some ⟨gx, 0, none⟩) m c2, .bool m3] 50 ∧ Blk wq w.heap.size #[.slice A n c, .slice A' n' c', .slice D m' e] 28 ∧ Ext w wq) (fun j0 _ => m - (intOf j0).toNat)
      case atStart => exact ⟨0, Nat.zero_le _, rfl, by rw [J0.out]; exact HL.out, HC.out, BV.out, B0.out, X.out⟩
      case round =>
        obtain ⟨j, hj, rfl, hl, hc, hbv, hb, hx⟩ := hrel
        clear HL B0 X HC BV
        have HL := hide hl
        have HC := hide hc
        have BV := hide hbv
        have B0 := hide hb
        have X := hide hx
        clear hl hc hbv hb hx
        have cV := BV.out.cell
        have cB := B0.out.cell
        by_cases hltj : j < m
        · have SP := hide (fun (wq' : World) (xq : Ext wr wq') => (HL.out.ext xq).spotG k _ (JT.out j) j (by show j < (pM d k x.2.1 j).length; rw [PL.out j (by omega)]; exact hltj) ((xq.cell (HL.out.lt g hg)).trans HC.out))
          obtain ⟨s1, s2, _⟩ := SP.out wr (Ext.refl wr)
          have s3 := HFP.out gx s1
          have s4 := LT.out gx s1
          have CA := hide (fun (wq' : World) (xq : Ext w wq') => CK.out wq' j xq hltj)
          have HS9 := hide (JS.out j hltj)
          have HGL := hide (HL.out.lt g hg)
          clear CK
          generalize callF d k j = C at *
          go_wp2
          go_region_held3 (fun w' => (∀ i, w'.cell? ⟨w.heap.size, i, none⟩ = #[Value.slice A n c, .slice A' n' c', .slice D m' e][i]?) ∧ ∀ i, w'.cell? ⟨gv, i, none⟩ = #[Value.slice A1 m1 c1, .slice (some ⟨gx, 0, none⟩) m c2, .bool m3][i]?)
            (first | exact ⟨((B0.out.ext Y5.out).far (by simp; omega) _).cell, ((BV.out.ext Y5.out).far (by simp; omega) _).cell⟩ | exact ⟨(B0.out.ext Y5.out).cell, (BV.out.ext Y5.out).cell⟩ | exact ⟨cB, cV⟩)
            (first | (go_at_call 44; refine (CA.out wr.drew (X.out.trans (Ext.drew wr))).mono ?_; rintro e1 w5 ⟨rfl, x5⟩; have Y5 := hide ((Ext.drew wr).trans x5); obtain ⟨_, _, t5, t6, _⟩ := SP.out w5 Y5.out; clear x5))
          replace HL := hide ((SP.out w5 Y5.out).2.2.2.2 C)
          replace B0 := hide ((B0.out.ext Y5.out).far (p := ⟨gx, j, none⟩) (by simp; omega) (.int .i64 C))
          replace BV := hide ((BV.out.ext Y5.out).far (p := ⟨gx, j, none⟩) (by simp; omega) (.int .i64 C))
          replace X : Hid (Ext w (w5.setCell ⟨gx, j, none⟩ (.int .i64 C))) := Below.setCell (X.out.trans Y5.out) (by simp; omega) _
          replace HC : Hid ((w5.setCell ⟨gx, j, none⟩ (.int .i64 C)).cell? ⟨g, k * 3 + 1, none⟩ = some (.slice (some ⟨gx, 0, none⟩) m c2)) := by
            have e9 := World.cell?_of_block (w := w5) (w' := w5.setCell ⟨gx, j, none⟩ (.int .i64 C)) (a := ⟨g, k * 3 + 1, none⟩) (Below.heap_setCell _ _ _ _ (fun e9 => s2 e9.symm))
            exact e9.trans ((Y5.out.cell HGL.out).trans HC.out)
          rw [HS9.out] at HL
          generalize w5.setCell ⟨gx, j, none⟩ (.int .i64 C) = w6 at *
          clear SP Y5 t5 t6 cB cV
          go_wp2
          go_roundw
          case rel => exact ⟨j + 1, by omega, by go_num, HL.out, HC.out, BV.out, B0.out, X.out⟩
          case measure => simp [intOf]; omega
        · have ej : m = j := by omega
          subst ej
          go_wp2
          go_roundw
          case rel => exact ⟨k + 1, by omega, by go_num, by rw [← JA.out m rfl]; exact HL.out, B0.out, X.out⟩
          case measure => simp [intOf]; omega
    · have ek : n = k := by omega
      subst ek
      go_wp2
      go_ret
      exact ⟨A9, c9, fp, rfl, by have h8 := HL.out; rwa [calN_all d n (by rw [hn.out]; exact Nat.le_refl _)] at h8, fun i hi => Nat.le_of_lt (HFP.out i hi), X.out⟩

set_option maxRecDepth 100000 in
set_option maxHeartbeats 4000000 in
theorem s.caItems_m (w : World) (v : Value) (d : ShD) (h : kSh.rd w v d) (hok : kSh.ok d) (hs : sheetB d = true) :
    Calls Try.prog 61 #[v] w fun e w' => ∃ A' c' fp, e = .returned (.slice A' d.1.length c') ∧ LO kdItem 50 w' A' c' (calF d) fp ∧ (∀ i ∈ fp, w.heap.size ≤ i) ∧ Ext w w' := by
  obtain ⟨A, c, A', c', D, e, rfl, h1, h2, h3⟩ := kSh.lr h
  have hok' : kdSh.wt d ≤ 1048576 := hok
  rw [kdSh.wt_eq] at hok'
  have hw1 : wtL kdItem d.1 ≤ 1048576 := by have : kdItS.wt d.1 = wtL kdItem d.1 := rfl; omega
  have hit : itemsB d.1 = true := by simp only [sheetB, cleanB, Bool.and_eq_true] at hs; exact hs.1.1.1.1.1
  have IT : Hid (∀ (k : Nat) (x : ItD), d.1[k]? = some x → 1 ≤ x.1.length ∧ x.1.length ≤ 3 ∧ x.2.1.length = x.1.length) := fun k x hx => by
    simp only [itemsB, Bool.and_eq_true, List.all_eq_true] at hit
    exact itemB_ok (hit.1 x (List.mem_of_getElem? hx))
  have k14 : d.1.length ≤ 14 := by simp only [itemsB, Bool.and_eq_true, decide_eq_true_eq] at hit; omega
  have CL : Hid (∀ (wq : World) (ix kx : Nat) (x : ItD), Ext w wq → d.1[ix]? = some x → kx < x.1.length → Calls Try.prog 66 #[.agg #[.slice A d.1.length c, .slice A' d.2.1.length c', .slice D d.2.2.length e], .int .i64 ix, .int .i64 kx] wq fun e w' => e = .returned (.int .i64 (callF d ix kx)) ∧ Ext wq w') := fun wq ix kx x xq hx hk => by
    obtain ⟨hi, _⟩ := List.getElem?_eq_some_iff.1 hx
    exact s.caCall_m wq _ d ix kx (kSh.rd_ext h xq) hok hs hi (by rw [namesAt_some hx]; exact hk)
  have CI := hide (fun (wq : World) (xq : Ext w wq) => s.itOwn_any wq A c w.heap.size d.1 (h1.ext xq (Nat.le_refl _)) xq.size hw1)
  have a1 := h1.1; have a2 := h1.2.1
  clear h h1 h2 h3 hok' hw1 hs hit
  obtain ⟨n, hn⟩ : ∃ n, Hid (d.1.length = n) := ⟨_, rfl⟩
  obtain ⟨n', hn'⟩ : ∃ n', Hid (d.2.1.length = n') := ⟨_, rfl⟩
  obtain ⟨m', hm'⟩ : ∃ n', Hid (d.2.2.length = n') := ⟨_, rfl⟩
  rw [hn.out] at a1 k14
  rw [hn.out] at CI
  rw [hn.out, hn'.out, hm'.out] at CL
  rw [hn.out, hn'.out, hm'.out]
  obtain ⟨W0, hW0⟩ : ∃ W0, Hid (W0 = w.alloc (.cells #[.slice A n c, .slice A' n' c', .slice D m' e] 28)) := ⟨_, rfl⟩
  have X : Hid (Ext w W0) := by rw [hW0.out]; exact Ext.alloc w _
  have B0 : Hid (Blk W0 w.heap.size #[.slice A n c, .slice A' n' c', .slice D m' e] 28) := by rw [hW0.out]; exact Blk.new rfl _ _
  have cBn : ∀ i, (w.alloc (.cells #[.slice A n c, .slice A' n' c', .slice D m' e] 28)).cell? ⟨w.heap.size, i, none⟩ = #[Value.slice A n c, .slice A' n' c', .slice D m' e][i]? := by rw [← hW0.out]; exact B0.out.cell
  go_enter Try.func61, Try.ntmps61
  go_wp2_with fail
  rw [← hW0.out]
  clear hW0 cBn
  refine (CI.out W0 X.out).mono ?_
  rintro e1 w2 ⟨A9, c9, fp, rfl, hl, hf, x2⟩
  have hcap := hl.cap
  rw [hn.out] at hcap
  have HL := hide hl
  have z0 := B0.out.lt
  have HFP : Hid (∀ i ∈ fp, w.heap.size < i) := fun i hi => Nat.lt_of_lt_of_le z0 (hf i hi)
  replace X := hide (X.out.trans x2)
  replace B0 := hide (B0.out.ext x2)
  clear hl hf x2 CI z0
  go_wp2
  go_loopw [11] (fun i0 wr => ∃ (k : Nat), k ≤ n ∧ i0 = .int .i64 k ∧ LO kdItem 50 wr A9 c9 (calN d k) fp ∧ Blk wr w.heap.size #[.slice A n c, .slice A' n' c', .slice D m' e] 28 ∧ Ext w wr) (fun i0 _ => n - (intOf i0).toNat)
  case atStart => exact ⟨0, Nat.zero_le _, rfl, by rw [calN_zero]; exact HL.out, B0.out, X.out⟩
  case round =>
    obtain ⟨k, hk, rfl, hl, hb, hx⟩ := hrel
    clear HL B0 X
    have HL := hide hl
    have B0 := hide hb
    have X := hide hx
    clear hl hb hx
    by_cases hlt : k < n
    · obtain ⟨x, hxk⟩ : ∃ x, Hid (d.1[k]? = some x) := ⟨_, List.getElem?_eq_getElem (by rw [hn.out]; exact hlt)⟩
      obtain ⟨y1, y2, y3⟩ := IT.out k x hxk.out
      obtain ⟨g, A1, c1, gx, c2, rfl, hg, q0, q1, q2, q3, q4⟩ := HL.out.headI k x (by rw [calN_at d k (by rw [hn.out]; exact hlt), hxk.out]) (by omega)
      have HC := hide q1
      have LT := hide HL.out.lt
      have J0 := hide (calJ_zero d k x hxk.out)
      have JA := hide (calJ_all d k x hxk.out)
      have JT := hide (fun (j : Nat) => calJ_at d k x j (by rw [hn.out]; exact hlt))
      have JS := hide (fun (j : Nat) => calJ_set d k x j)
      have PL := hide (fun (j : Nat) => pM_len d k x.2.1 j)
      obtain ⟨m, hm⟩ : ∃ m, Hid (x.2.1.length = m) := ⟨_, rfl⟩
      rw [hm.out] at q1 q3 y3 HC JS PL JA
      have CK := hide (fun (wq : World) (kx : Nat) (xq : Ext w wq) (hk : kx < m) => CL.out wq k kx x xq hxk.out (by omega))
      have y4 : m ≤ 3 := by omega
      clear y3
      generalize x.1.length = m1 at *
      generalize x.2.2 = m3 at *
      go_wp2
      clear q0 q1 q2
      go_loopw [20] (fun j0 wq => ∃ (j : Nat), j ≤ m ∧ j0 = .int .i64 j ∧ LO kdItem 50 wq (some ⟨g, 0, none⟩) c9 (calJ d k x j) fp ∧ wq.cell? ⟨g, k * 3 + 1, none⟩ = some (.slice (some ⟨gx, 0, none⟩) m c2) ∧ Blk wq w.heap.size #[.slice A n c, .slice A' n' c', .slice D m' e] 28 ∧ Ext w wq) (fun j0 _ => m - (intOf j0).toNat)
      case atStart => exact ⟨0, Nat.zero_le _, rfl, by rw [J0.out]; exact HL.out, HC.out, B0.out, X.out⟩
      case round =>
        obtain ⟨j, hj, rfl, hl, hc, hb, hx⟩ := hrel
        clear HL B0 X HC
        have HL := hide hl
        have HC := hide hc
        have B0 := hide hb
        have X := hide hx
        clear hl hc hb hx
        have cV := HC.out
        have cB := B0.out.cell
        by_cases hltj : j < m
        · have SP := hide (fun (wq' : World) (xq : Ext wr wq') => (HL.out.ext xq).spotG k _ (JT.out j) j (by show j < (pM d k x.2.1 j).length; rw [PL.out j (by omega)]; exact hltj) ((xq.cell (HL.out.lt g hg)).trans HC.out))
          obtain ⟨s1, s2, _⟩ := SP.out wr (Ext.refl wr)
          have s3 := HFP.out gx s1
          have s4 := LT.out gx s1
          have CA := hide (fun (wq' : World) (xq : Ext w wq') => CK.out wq' j xq hltj)
          have HS9 := hide (JS.out j hltj)
          have HGL := hide (HL.out.lt g hg)
          clear CK
          generalize callF d k j = C at *
          go_wp2
          go_region_held3 (fun w' => (∀ i, w'.cell? ⟨w.heap.size, i, none⟩ = #[Value.slice A n c, .slice A' n' c', .slice D m' e][i]?) ∧ w'.cell? ⟨g, k * 3 + 1, none⟩ = some (.slice (some ⟨gx, 0, none⟩) m c2))
            (first | exact ⟨((B0.out.ext Y5.out).far (by simp; omega) _).cell, HC6.out⟩ | exact ⟨(B0.out.ext Y5.out).cell, ((Y5.out.cell HGL.out).trans HC.out)⟩ | exact ⟨cB, cV⟩)
            (first | (go_at_call 66; refine (CA.out wr.drew (X.out.trans (Ext.drew wr))).mono ?_; rintro e1 w5 ⟨rfl, x5⟩; have Y5 := hide ((Ext.drew wr).trans x5); obtain ⟨_, _, t5, t6, _⟩ := SP.out w5 Y5.out; have HC6 : Hid ((w5.setCell ⟨gx, j, none⟩ (.int .i64 C)).cell? ⟨g, k * 3 + 1, none⟩ = some (.slice (some ⟨gx, 0, none⟩) m c2)) := (World.cell?_of_block (w := w5) (w' := w5.setCell ⟨gx, j, none⟩ (.int .i64 C)) (a := ⟨g, k * 3 + 1, none⟩) (Below.heap_setCell _ _ _ _ (fun e9 => s2 e9.symm))).trans ((Y5.out.cell HGL.out).trans HC.out); clear x5))
          replace HL := hide ((SP.out w5 Y5.out).2.2.2.2 C)
          replace B0 := hide ((B0.out.ext Y5.out).far (p := ⟨gx, j, none⟩) (by simp; omega) (.int .i64 C))
          replace X : Hid (Ext w (w5.setCell ⟨gx, j, none⟩ (.int .i64 C))) := Below.setCell (X.out.trans Y5.out) (by simp; omega) _
          replace HC := HC6
          rw [HS9.out] at HL
          generalize w5.setCell ⟨gx, j, none⟩ (.int .i64 C) = w6 at *
          clear SP Y5 t5 t6 cB cV
          go_wp2
          go_roundw
          case rel => exact ⟨j + 1, by omega, by go_num, HL.out, HC.out, B0.out, X.out⟩
          case measure => simp [intOf]; omega
        · have ej : m = j := by omega
          subst ej
          go_wp2
          go_roundw
          case rel => exact ⟨k + 1, by omega, by go_num, by rw [← JA.out m rfl]; exact HL.out, B0.out, X.out⟩
          case measure => simp [intOf]; omega
    · have ek : n = k := by omega
      subst ek
      go_wp2
      go_ret
      exact ⟨A9, c9, fp, rfl, by have h8 := HL.out; rwa [calN_all d n (by rw [hn.out]; exact Nat.le_refl _)] at h8, fun i hi => Nat.le_of_lt (HFP.out i hi), X.out⟩
end Go.Proofs.Ytofmfagdaiphaaa

/- CalledItems. -/
namespace Go.Proofs.Ytofmfagdaiphaaa
open Go.RowKit Go.Sort
set_option linter.unusedVariables false

theorem kIt.of_LO {w : World} {A : Option Addr} {c lo n : Nat} {xs : List ItD} {fp : List Nat} (h : LO kdItem 50 w A c xs fp) (hf : ∀ i ∈ fp, lo ≤ i) (hn : n = xs.length) : kIt.fr w lo w.heap.size (.slice A n c) xs := by
  subst hn
  exact ⟨[.slice A xs.length c], fp, rfl, ⟨A, c, rfl, h⟩, fun i hi => ⟨hf i hi, h.lt i hi⟩⟩
theorem wtL_mapIdx (f : Nat → ItD → ItD) (hf : ∀ i x, kdItem.wt (f i x) = kdItem.wt x) (xs : List ItD) : wtL kdItem (xs.mapIdx f) = wtL kdItem xs := by
  induction xs generalizing f with
  | nil => rfl
  | cons x t ih =>
    rw [List.mapIdx_cons]
    show 1 + kdItem.wt (f 0 x) + wtL kdItem _ = 1 + kdItem.wt x + wtL kdItem t
    rw [hf, ih _ (fun i x => hf (i + 1) x)]
theorem calF_ok (d : ShD) (h : kSh.ok d) : kIt.ok (calF d) := by
  have h1 : kdSh.wt d ≤ 1048576 := h
  rw [kdSh.wt_eq] at h1
  show wtL kdItem (calF d) ≤ 1048576
  have e : wtL kdItem (calF d) = wtL kdItem d.1 := wtL_mapIdx _ (fun i x => by
    rw [kdItem.wt_eq, kdItem.wt_eq]
    have e1 : kdL.wt (calIt d i x).2.1 = (calIt d i x).2.1.length := wtL_int _
    have e2 : kdL.wt x.2.1 = x.2.1.length := wtL_int _
    rw [e1, e2]
    simp [calIt]) d.1
  have e3 : kdItS.wt d.1 = wtL kdItem d.1 := rfl
  omega

set_option maxRecDepth 100000 in
set_option maxHeartbeats 4000000 in
theorem i.CalledItems_law (w : World) (v : Value) (d : ShD) (h : kSh.rd w v d) (hok : kSh.ok d) :
    Calls Try.prog 20 #[v] w fun e w' => ∃ v0, e = .returned (.tuple #[v0, .bool (calledF d).2]) ∧ kIt.fr w' w.heap.size w'.heap.size v0 (calledF d).1 ∧ kIt.ok (calledF d).1 ∧ Ext w w' := by
  obtain ⟨A, c, A', c', D, e, rfl, h1, h2, h3⟩ := kSh.lr h
  have a1 := h1.1; have a2 := h1.2.1
  have HR := hide h
  clear h h1 h2 h3
  obtain ⟨n, hn⟩ : ∃ n, Hid (d.1.length = n) := ⟨_, rfl⟩
  obtain ⟨n', hn'⟩ : ∃ n', Hid (d.2.1.length = n') := ⟨_, rfl⟩
  obtain ⟨m', hm'⟩ : ∃ n', Hid (d.2.2.length = n') := ⟨_, rfl⟩
  rw [hn.out] at a1
  rw [hn.out, hn'.out, hm'.out] at HR ⊢
  obtain ⟨W0, hW0⟩ : ∃ W0, Hid (W0 = w.alloc (.cells #[.slice A n c, .slice A' n' c', .slice D m' e] 28)) := ⟨_, rfl⟩
  have X : Hid (Ext w W0) := by rw [hW0.out]; exact Ext.alloc w _
  have B0 : Hid (Blk W0 w.heap.size #[.slice A n c, .slice A' n' c', .slice D m' e] 28) := by rw [hW0.out]; exact Blk.new rfl _ _
  obtain ⟨F, hF⟩ : ∃ F, Hid (calledF d = F) := ⟨_, rfl⟩
  rw [hF.out]
  have OKC := hide (calF_ok d hok)
  go_enter Try.func20, Try.ntmps20
  go_wp2_with fail
  rw [← hW0.out]
  clear hW0
  refine (i.IsSheet_m _ _ d (kSh.rd_ext HR.out X.out) hok).mono ?_
  rintro e1 w1 ⟨rfl, x1⟩
  replace X := hide (X.out.trans x1)
  replace B0 := hide (B0.out.ext x1)
  clear x1
  have cB := B0.out.cell
  cases hs : sheetB d
  · have HF : Hid (F = ([], false)) := by show _ = _; rw [← hF.out]; simp [calledF, hs]
    clear hs
    go_wp2
    go_ret2
    rw [HF.out]
    exact ⟨_, rfl, kIt.fr_nil _ _ _, Nat.zero_le _, X.out⟩
  have HS := hide hs
  clear hs
  go_wp2_with fail
  refine (i.openCalls_m _ _ d (kSh.rd_ext HR.out X.out) hok HS.out).mono ?_
  rintro e1 w2 ⟨A9, c9, fp, rfl, hl, hf, x2⟩
  have hcap := hl.cap
  have z := X.out.size
  replace X := hide (X.out.trans x2)
  replace B0 := hide (B0.out.ext x2)
  clear hl hf x2 cB
  have cB := B0.out.cell
  obtain ⟨L, hL⟩ : ∃ L, Hid ((pairs (openP d) d.1).length = L) := ⟨_, rfl⟩
  rw [hL.out] at hcap ⊢
  by_cases hz : L = 0
  · have HF : Hid (F = (calF d, true)) := by show _ = _; rw [← hF.out]; simp [calledF, HS.out, hL.out, hz]
    subst hz
    clear hF
    go_wp2_with fail
    refine (i.calledItems_m _ _ d (kSh.rd_ext HR.out X.out) hok HS.out).mono ?_
    rintro e1 w3 ⟨A8, c8, fq, rfl, hl, hf, x3⟩
    have hcap := hl.cap
    have z3 := X.out.size
    have el : (calF d).length = n := by rw [← hn.out]; simp [calF]
    rw [el] at hcap
    have FR := hide (kIt.of_LO (lo := w.heap.size) hl (fun i hi => by have := hf i hi; omega) (n := n) el.symm)
    replace X := hide (X.out.trans x3)
    clear hl hf x3 cB el
    rw [hn.out]
    go_wp2
    go_ret2
    rw [HF.out]
    exact ⟨_, rfl, FR.out, OKC.out, X.out⟩
  · have HF : Hid (F = ([], false)) := by show _ = _; rw [← hF.out]; simp [calledF, hL.out, hz]
    have hz2 : (0 : Int) < L := by omega
    clear hF hz
    go_wp2
    go_ret2
    rw [HF.out]
    exact ⟨_, rfl, kIt.fr_nil _ _ _, Nat.zero_le _, X.out⟩

set_option maxRecDepth 100000 in
set_option maxHeartbeats 4000000 in
theorem s.CalledItems_law (w : World) (v : Value) (d : ShD) (h : kSh.rd w v d) (hok : kSh.ok d) :
    Calls Try.prog 21 #[v] w fun e w' => ∃ v0, e = .returned (.tuple #[v0, .bool (calledF d).2]) ∧ kIt.fr w' w.heap.size w'.heap.size v0 (calledF d).1 ∧ kIt.ok (calledF d).1 ∧ Ext w w' := by
  obtain ⟨A, c, A', c', D, e, rfl, h1, h2, h3⟩ := kSh.lr h
  have a1 := h1.1; have a2 := h1.2.1
  have HR := hide h
  clear h h1 h2 h3
  obtain ⟨n, hn⟩ : ∃ n, Hid (d.1.length = n) := ⟨_, rfl⟩
  obtain ⟨n', hn'⟩ : ∃ n', Hid (d.2.1.length = n') := ⟨_, rfl⟩
  obtain ⟨m', hm'⟩ : ∃ n', Hid (d.2.2.length = n') := ⟨_, rfl⟩
  rw [hn.out] at a1
  rw [hn.out, hn'.out, hm'.out] at HR ⊢
  obtain ⟨W0, hW0⟩ : ∃ W0, Hid (W0 = w.alloc (.cells #[.slice A n c, .slice A' n' c', .slice D m' e] 28)) := ⟨_, rfl⟩
  have X : Hid (Ext w W0) := by rw [hW0.out]; exact Ext.alloc w _
  have B0 : Hid (Blk W0 w.heap.size #[.slice A n c, .slice A' n' c', .slice D m' e] 28) := by rw [hW0.out]; exact Blk.new rfl _ _
  obtain ⟨F, hF⟩ : ∃ F, Hid (calledF d = F) := ⟨_, rfl⟩
  rw [hF.out]
  have OKC := hide (calF_ok d hok)
  go_enter Try.func21, Try.ntmps21
  go_wp2_with fail
  rw [← hW0.out]
  clear hW0
  refine (s.caGood_m _ _ d (kSh.rd_ext HR.out X.out) hok).mono ?_
  rintro e1 w1 ⟨rfl, x1⟩
  replace X := hide (X.out.trans x1)
  replace B0 := hide (B0.out.ext x1)
  clear x1
  have cB := B0.out.cell
  cases hs : sheetB d
  · have HF : Hid (F = ([], false)) := by show _ = _; rw [← hF.out]; simp [calledF, hs]
    clear hs
    go_wp2
    go_ret2
    rw [HF.out]
    exact ⟨_, rfl, kIt.fr_nil _ _ _, Nat.zero_le _, X.out⟩
  have HS := hide hs
  clear hs
  go_wp2_with fail
  refine (s.caOpen_m _ _ d (kSh.rd_ext HR.out X.out) hok HS.out).mono ?_
  rintro e1 w2 ⟨A9, c9, fp, rfl, hl, hf, x2⟩
  have hcap := hl.cap
  have z := X.out.size
  replace X := hide (X.out.trans x2)
  replace B0 := hide (B0.out.ext x2)
  clear hl hf x2 cB
  have cB := B0.out.cell
  obtain ⟨L, hL⟩ : ∃ L, Hid ((pairs (openP d) d.1).length = L) := ⟨_, rfl⟩
  rw [hL.out] at hcap ⊢
  by_cases hz : L = 0
  · have HF : Hid (F = (calF d, true)) := by show _ = _; rw [← hF.out]; simp [calledF, HS.out, hL.out, hz]
    subst hz
    clear hF
    go_wp2_with fail
    refine (s.caItems_m _ _ d (kSh.rd_ext HR.out X.out) hok HS.out).mono ?_
    rintro e1 w3 ⟨A8, c8, fq, rfl, hl, hf, x3⟩
    have hcap := hl.cap
    have z3 := X.out.size
    have el : (calF d).length = n := by rw [← hn.out]; simp [calF]
    rw [el] at hcap
    have FR := hide (kIt.of_LO (lo := w.heap.size) hl (fun i hi => by have := hf i hi; omega) (n := n) el.symm)
    replace X := hide (X.out.trans x3)
    clear hl hf x3 cB el
    rw [hn.out]
    go_wp2
    go_ret2
    rw [HF.out]
    exact ⟨_, rfl, FR.out, OKC.out, X.out⟩
  · have HF : Hid (F = ([], false)) := by show _ = _; rw [← hF.out]; simp [calledF, hL.out, hz]
    have hz2 : (0 : Int) < L := by omega
    clear hF hz
    go_wp2
    go_ret2
    rw [HF.out]
    exact ⟨_, rfl, kIt.fr_nil _ _ _, Nat.zero_le _, X.out⟩
end Go.Proofs.Ytofmfagdaiphaaa

/- DrawChangedCalls. (Printed by jm.py.) -/
namespace Go.Proofs.Ytofmfagdaiphaaa
open Go.RowKit Go.Sort
set_option linter.unusedVariables false

section
variable {w1 w w' wx : World} {g M M' b n ci nv cv nr cr n' m i k cl : Nat} {Ai Av Ar : Option Addr} {xs : List ItD} {vs vs' : List (List (List Int))} {rs : List RvD} {f1 f2 f3 ns : List Nat}
theorem ShU.spvAt {gv v1 c1 v2 c2 : Nat} {v : List (List Int)} {x : List Int} (h : ShU w1 g M w b n Ai ci xs f1 Av nv cv vs f2 Ar nr cr rs f3) (s : SpV w w1 Av f2 gv v1 c1 v2 c2 n' m cl i 0) (hv : vs[cl]? = some v) (hx : v[i]? = some x) (hk : k < x.length) (e1 : v.length = n') (e2 : x.length = m) : SpV w w1 Av f2 gv v1 c1 v2 c2 n' m cl i k := by
  obtain ⟨gv', v1', c1', v2', c2', s'⟩ := h.spv hv hx hk e1 e2
  have q0 := s.av.symm.trans s'.av
  simp only [Option.some.injEq, Addr.mk.injEq, and_true] at q0
  subst q0
  have q1 := s.h0.symm.trans s'.h0
  simp only [Option.some.injEq, Value.slice.injEq, Addr.mk.injEq, and_true, true_and] at q1
  obtain ⟨rfl, rfl⟩ := q1
  have q2 := s.h1.symm.trans s'.h1
  simp only [Option.some.injEq, Value.slice.injEq, Addr.mk.injEq, and_true, true_and] at q2
  obtain ⟨rfl, rfl⟩ := q2
  exact s'
/-- An item's names, where they lie. -/
theorem ShU.spn (h : ShU w1 g M w b n Ai ci xs f1 Av nv cv vs f2 Ar nr cr rs f3) {x : ItD} (hx : xs[i]? = some x) : ∃ gi B C, Ai = some ⟨gi, 0, none⟩ ∧ w.cell? ⟨gi, i * 3, none⟩ = some (.slice B x.1.length C) ∧ gi ∈ f1 := by
  obtain ⟨gq, csq, fq, hat⟩ := h.oi.at_ i x hx
  obtain ⟨v1, v2, f4, f5, hcs0, ⟨A3, c3, rfl, l3⟩, ⟨v3, v4, f6, f7, rfl, ⟨A4, c4, rfl, l4⟩, -, -, -⟩, -, -⟩ := hat.own
  have hcs0 : csq = [.slice A3 x.1.length c3, .slice A4 x.2.1.length c4] ++ v4 := hcs0
  have ck := hat.cell 0 (.slice A3 x.1.length c3) (by rw [hcs0]; rfl)
  exact ⟨gq, A3, c3, hat.addr, ck, hat.mem⟩
theorem ShU.nil {lo : Nat} (h : ShU w1 g M w b n Ai ci xs f1 Av nv cv vs f2 Ar nr cr rs f3) (hlo : lo ≤ w1.heap.size) (hw : kSm.ok ((xs, vs, []) : ShD)) : ShR lo (w.setCell ⟨b, 2, none⟩ (.slice none 0 0)) (.agg #[.slice Ai n ci, .slice Av nv cv, .slice none 0 0]) := by
  have far : ∀ p, p ≠ b → (w.setCell ⟨b, 2, none⟩ (.slice none 0 0)).heap[p]? = w.heap[p]? := fun p hp => Below.heap_setCell _ _ _ _ hp
  have hz : (w.setCell ⟨b, 2, none⟩ (.slice none 0 0)).heap.size = w.heap.size := by simp [World.setCell]
  refine ⟨(xs, vs, []), hw, fun w2 k => ?_⟩
  have o1 := (h.oi.keep (w' := w2) fun i hi => (k.2 i (by have := (h.d1 i hi).1; omega) (by rw [hz]; exact h.oi.lt i hi)).trans (far i (h.d1 i hi).2.1))
  have o2 := (h.ov.keep (w' := w2) fun i hi => (k.2 i (by have := (h.d2 i hi).1; omega) (by rw [hz]; exact h.ov.lt i hi)).trans (far i (h.d2 i hi).2.1))
  exact kSh_lrs (d := (xs, vs, [])) o1.rd o2.rd (LO.none_ (K := kdRv) (e := 30)).rd h.li h.lv rfl
theorem ShU.nilE (h : ShU w1 g M w b n Ai ci xs f1 Av nv cv vs f2 Ar nr cr rs f3) (hm : M ≤ M') (hw : kSm.ok ((xs, vs, []) : ShD)) : ShE w1 g M' (w.setCell ⟨b, 2, none⟩ (.slice none 0 0)) b Ai n ci Av nv cv none 0 0 := by
  have t := TchF.put w ⟨b, 2, none⟩ (.slice none 0 0) (fp := [b]) (by simp)
  have hb := h.hb; have hg := h.gl
  exact ⟨h.k.step t (fun i hi => .inr (by simp at hi; omega)), (h.cu.more hm).tchF t (by simp; omega), h.bx.set 2 _, hb, fun lo hl => h.nil hl hw⟩
theorem ShE.curs {ni : Nat} (h : ShE w1 g M w b Ai ni ci Av nv cv Ar nr cr) (hg : g < w1.heap.size) (y : TchF [g] w w') (z : Cur w' g M') : ShE w1 g M' w' b Ai ni ci Av nv cv Ar nr cr :=
  ⟨h.k.step y (fun i hi => .inl (by simpa using hi)), z, h.bx.tchF y (by have := h.hb; simp; omega), h.hb, fun lo hl => by
    rcases Nat.lt_or_ge g lo with q | q
    · exact (h.rd lo hl).since (Since.of_tchS y (by simpa using q))
    · exact ((h.rd w1.heap.size (Nat.le_refl _)).since (Since.of_tchS y (by simpa using hg))).less hl⟩
theorem ShU.ofOwn {v : Value} {d : ShD} (cu : Cur w1 g M) (x : Ext w1 w') (h : kSh.fr w' w1.heap.size w'.heap.size v d) : ∃ A3 c3 A5 c5 A4 c4 f1 f2 f3, v = .agg #[.slice A3 d.1.length c3, .slice A5 d.2.1.length c5, .slice A4 d.2.2.length c4] ∧ ShU w1 g M (w'.alloc (.cells #[.slice A3 d.1.length c3, .slice A5 d.2.1.length c5, .slice A4 d.2.2.length c4] 28)) w'.heap.size d.1.length A3 c3 d.1 f1 A5 d.2.1.length c5 d.2.1 f2 A4 d.2.2.length c4 d.2.2 f3 := by
  obtain ⟨A3, c3, A5, c5, A4, c4, f1, f2, f3, rfl, h1, h2, h3, d1, d2, d3⟩ := kSm_parts h
  have xa := Ext.alloc w' (.cells #[.slice A3 d.1.length c3, .slice A5 d.2.1.length c5, .slice A4 d.2.2.length c4] 28)
  exact ⟨A3, c3, A5, c5, A4, c4, f1, f2, f3, rfl, TchF.of_ext (x.trans xa), cu.ext (x.trans xa), Blk.new rfl _ _, x.size, cu.lt, h1.ext xa, rfl, h2.ext xa, rfl, h3.ext xa, rfl, fun i hi => ⟨(d1 i hi).1, by have := (d1 i hi).2.1; omega, (d1 i hi).2.2⟩, fun i hi => ⟨(d2 i hi).1, by have := (d2 i hi).2.1; omega, (d2 i hi).2.2⟩, fun i hi => ⟨(d3 i hi).1, by have := (d3 i hi).2; omega⟩⟩
end
theorem sheetB_shp {d : ShD} (h : sheetB d = true) : Shp (d.1.map (fun x => x.1.length)) d.2.1 := by
  refine ⟨sheetB_votes h, fun cl v hv => ?_⟩
  obtain ⟨h1, h2⟩ := sheetB_rows h (List.mem_of_getElem? hv)
  refine ⟨by rw [List.length_map]; exact h1, fun i x hx => ?_⟩
  have hi : i < d.1.length := by
    rw [← h1]
    exact (List.getElem?_eq_some_iff.1 hx).1
  have h3 := h2 i hi
  rw [List.getD_eq_getElem?_getD, hx] at h3
  simp only [Option.getD_some, namesAt, List.getD_eq_getElem?_getD, List.getElem?_eq_getElem hi] at h3
  rw [List.getD_eq_getElem?_getD, List.getElem?_map, List.getElem?_eq_getElem hi]
  exact h3
theorem sheetB_names {d : ShD} (h : sheetB d = true) {i : Nat} {x : ItD} (hx : d.1[i]? = some x) : 1 ≤ x.1.length ∧ x.1.length ≤ 3 := by
  simp only [sheetB, Bool.and_eq_true, cleanB, itemsB, List.all_eq_true] at h
  have h1 := itemB_ok (h.1.1.1.1.1.1 x (List.mem_of_getElem? hx))
  exact ⟨h1.1, h1.2.1⟩
theorem wt_vote {vs : List (List (List Int))} {cl i : Nat} {v : List (List Int)} {x : List Int} (hv : vs[cl]? = some v) (hx : v[i]? = some x) (k : Nat) (z : Int) : wtL kdLL (vs.set cl (v.set i (x.set k z))) = wtL kdLL vs := by
  have := setV_wt vs cl i k z
  rw [setV] at this
  rw [← this, List.getD_eq_getElem?_getD, hv, Option.getD_some, List.getD_eq_getElem?_getD, hx, Option.getD_some]
abbrev CCPost (w : World) (e : Ending) (w' : World) : Prop := ∃ (Ai : Option Addr) (ni ci : Nat) (Av : Option Addr) (nv cv : Nat) (Ar : Option Addr) (nr cr : Nat) (Bi : Option Addr) (mi di : Nat) (Bv : Option Addr) (mv dv : Nat) (Br : Option Addr) (mr dr : Nat), e = .returned (.tuple #[.agg #[.slice Ai ni ci, .slice Av nv cv, .slice Ar nr cr], .agg #[.slice Bi mi di, .slice Bv mv dv, .slice Br mr dr]]) ∧ ShR w.heap.size w' (.agg #[.slice Ai ni ci, .slice Av nv cv, .slice Ar nr cr]) ∧ ShR w.heap.size w' (.agg #[.slice Bi mi di, .slice Bv mv dv, .slice Br mr dr]) ∧ Ext w w'
theorem TchF.after {fp fp' : List Nat} {w wx w' : World} (x : Ext w wx) (k : TchF fp wx w') (hs : ∀ i ∈ fp, i ∈ fp') : TchF fp' w w' := (TchF.of_ext x).trans (k.more hs)
theorem TchF.afterS {fp fp' : List Nat} {w wx w' : World} {z : Nat} {u0 u1 u2 : Value} (x : Ext w wx) (k : TchF fp (setS wx z u0 u1 u2) w') (hs : ∀ i ∈ fp, i ∈ fp') (hz : z ∈ fp') : TchF fp' w w' := ((TchF.of_ext x).trans ((setS_tch wx z u0 u1 u2).more (by simpa using hz))).trans (k.more hs)
theorem ShR.after {w wx w' : World} {lo : Nat} {v : Value} (x : Ext w wx) (hl : lo ≤ w.heap.size) (h : ShR wx.heap.size w' v) : ShR lo w' v := h.less (Nat.le_trans hl x.size)
theorem ShR.afterS {w wx w' : World} {lo z : Nat} {u0 u1 u2 v : Value} (x : Ext w wx) (hl : lo ≤ w.heap.size) (h : ShR (setS wx z u0 u1 u2).heap.size w' v) : ShR lo w' v := h.less (Nat.le_trans (Nat.le_trans hl x.size) (setS_tch wx z u0 u1 u2).size)
theorem QD.res {W0 w : World} {g M b z0 z1 ni ci nv cv nr cr mi di mv dv mr dr : Nat} {Ai Av Ar Bi Bv Br : Option Addr} (h : QD W0 g M w b z0 z1 #[.slice none 0 0, .slice none 0 0, .slice none 0 0] 28 Ai ni ci Av nv cv Ar nr cr) {w2 : World} (k : TchF [g, z0, z1] w w2) (hb : ShR W0.heap.size w2 (.agg #[.slice Bi mi di, .slice Bv mv dv, .slice Br mr dr])) (w0 : World) (hz : w0.heap.size ≤ z0) (hz1 : w0.heap.size ≤ z1) (X : Ext w0 W0) : CCPost w0 (.returned (.tuple #[.agg #[.slice Ai ni ci, .slice Av nv cv, .slice Ar nr cr], .agg #[.slice Bi mi di, .slice Bv mv dv, .slice Br mr dr]])) w2 := by
  have h1 := h.gW; have h2 := h.zg; have h3 := h.z1g
  exact ⟨Ai, ni, ci, Av, nv, cv, Ar, nr, cr, Bi, mi, di, Bv, mv, dv, Br, mr, dr, rfl, (h.rd.since (Since.of_tchS k (by simp; omega))).less X.size, hb.less X.size, (X.tchF h.k (by simp; omega)).tchF k (by simp; omega)⟩
theorem QD.res1 {W0 w : World} {g M b z0 z1 ni ci nv cv nr cr mi di mv dv mr dr : Nat} {Ai Av Ar Bi Bv Br : Option Addr} (h : QD W0 g M w b z0 z1 #[.slice none 0 0, .slice none 0 0, .slice none 0 0] 28 Ai ni ci Av nv cv Ar nr cr) {w2 : World} (k : TchF [g, z0, z1] w w2) (hb : ShR W0.heap.size w2 (.agg #[.slice Bi mi di, .slice Bv mv dv, .slice Br mr dr])) (w0 : World) (hz : w0.heap.size ≤ z0) (hz1 : w0.heap.size ≤ z1) (X : Ext w0 W0) (u0 u1 u2 v0 v1 v2 : Value) : CCPost w0 (.returned (.tuple #[.agg #[.slice Ai ni ci, .slice Av nv cv, .slice Ar nr cr], .agg #[.slice Bi mi di, .slice Bv mv dv, .slice Br mr dr]])) (setS (setS w2 z0 u0 u1 u2) z1 v0 v1 v2) := by
  have h1 := h.gW; have h2 := h.zg; have h3 := h.z1g
  exact h.res (k.trans (((setS_tch w2 z0 u0 u1 u2).more (by simp)).trans ((setS_tch _ z1 v0 v1 v2).more (by simp)))) (hb.since ((Since.of_tchS (setS_tch w2 z0 u0 u1 u2) (by simp; omega)).trans (Since.of_tchS (setS_tch _ z1 v0 v1 v2) (by simp; omega)))) w0 hz hz1 X
theorem QD.res2 {W0 w : World} {g M b z0 z1 ni ci nv cv nr cr mi di mv dv mr dr : Nat} {Ai Av Ar Bi Bv Br : Option Addr} (h : QD W0 g M w b z0 z1 #[.slice none 0 0, .slice none 0 0, .slice none 0 0] 28 Ai ni ci Av nv cv Ar nr cr) {w2 : World} (k : TchF [g, z0, z1] w w2) (hb : ShR W0.heap.size w2 (.agg #[.slice Bi mi di, .slice Bv mv dv, .slice Br mr dr])) (w0 : World) (hz : w0.heap.size ≤ z0) (hz1 : w0.heap.size ≤ z1) (X : Ext w0 W0) (u0 u1 u2 v0 v1 v2 : Value) : CCPost w0 (.returned (.tuple #[.agg #[.slice Ai ni ci, .slice Av nv cv, .slice Ar nr cr], .agg #[.slice Bi mi di, .slice Bv mv dv, .slice Br mr dr]])) (setS (setS w2 z1 v0 v1 v2) z0 u0 u1 u2) := by
  have h1 := h.gW; have h2 := h.zg; have h3 := h.z1g
  exact h.res (k.trans (((setS_tch w2 z1 v0 v1 v2).more (by simp)).trans ((setS_tch _ z0 u0 u1 u2).more (by simp)))) (hb.since ((Since.of_tchS (setS_tch w2 z1 v0 v1 v2) (by simp; omega)).trans (Since.of_tchS (setS_tch _ z0 u0 u1 u2) (by simp; omega)))) w0 hz hz1 X
theorem QD.res3 {W0 w : World} {g M b z0 z1 ni ci nv cv nr cr mi di mv dv mr dr : Nat} {Ai Av Ar Bi Bv Br : Option Addr} (h : QD W0 g M w b z0 z1 #[.slice none 0 0, .slice none 0 0, .slice none 0 0] 28 Ai ni ci Av nv cv Ar nr cr) {w2 : World} (k : TchF [g, z0, z1] w w2) (hb : ShR W0.heap.size w2 (.agg #[.slice Bi mi di, .slice Bv mv dv, .slice Br mr dr])) (w0 : World) (hz : w0.heap.size ≤ z0) (hz1 : w0.heap.size ≤ z1) (X : Ext w0 W0) (v0 v1 v2 : Value) : CCPost w0 (.returned (.tuple #[.agg #[.slice Ai ni ci, .slice Av nv cv, .slice Ar nr cr], .agg #[.slice Bi mi di, .slice Bv mv dv, .slice Br mr dr]])) (setS w2 z1 v0 v1 v2) := by
  have h1 := h.gW; have h2 := h.zg; have h3 := h.z1g
  exact h.res (k.trans ((setS_tch w2 z1 v0 v1 v2).more (by simp))) (hb.since (Since.of_tchS (setS_tch w2 z1 v0 v1 v2) (by simp; omega))) w0 hz hz1 X
theorem CCPost.drew {w w' : World} {e : Ending} (h : CCPost w e w') : CCPost w e w'.drew := by
  obtain ⟨Ai, ni, ci, Av, nv, cv, Ar, nr, cr, Bi, mi, di, Bv, mv, dv, Br, mr, dr, rfl, h1, h2, h3⟩ := h
  exact ⟨Ai, ni, ci, Av, nv, cv, Ar, nr, cr, Bi, mi, di, Bv, mv, dv, Br, mr, dr, rfl, h1.since (Since.of_ext (Ext.drew _)), h2.since (Since.of_ext (Ext.drew _)), h3.trans (Ext.drew _)⟩
set_option maxRecDepth 100000 in
set_option maxHeartbeats 40000000 in
theorem s.DrawChangedCalls_m (w : World) (a0 : Option Addr) (m0 d0 : Nat) (h : ArgB w a0 m0 d0) : Calls Try.prog 33 #[.slice a0 m0 d0] w fun e w' => CCPost w e w' := by
  obtain ⟨W0, hW0⟩ : ∃ W0, Hid (W0 = ((w.alloc (.cells #[.slice none 0 0, .slice none 0 0, .slice none 0 0] 28)).alloc (.cells #[.slice none 0 0, .slice none 0 0, .slice none 0 0] 28)).alloc (.cells #[.slice a0 m0 d0, .int .i64 0, .int .u64 0] 70)) := ⟨_, rfl⟩
  obtain ⟨g, hg⟩ : ∃ g, Hid (g = w.heap.size + 1 + 1) := ⟨_, rfl⟩
  obtain ⟨z1, hz1⟩ : ∃ z, Hid (z = w.heap.size + 1) := ⟨_, rfl⟩
  have CU : Hid (Cur W0 g 0) := by
    rw [hW0.out, hg.out]
    have := Cur.new (h.ext ((Ext.alloc w (.cells #[.slice none 0 0, .slice none 0 0, .slice none 0 0] 28)).trans (Ext.alloc _ (.cells #[.slice none 0 0, .slice none 0 0, .slice none 0 0] 28))))
    show Cur _ _ _
    simpa using this
  have X : Hid (Ext w W0) := by rw [hW0.out]; exact ((Ext.alloc w _).trans (Ext.alloc _ _)).trans (Ext.alloc _ _)
  have BX : Hid (Blk W0 w.heap.size #[.slice none 0 0, .slice none 0 0, .slice none 0 0] 28) := by rw [hW0.out]; exact ((Blk.new rfl _ _).alloc _).alloc _
  have BM : Hid (Blk W0 z1 #[.slice none 0 0, .slice none 0 0, .slice none 0 0] 28) := by rw [hW0.out, hz1.out]; exact (Blk.new (by simp) _ _).alloc _
  have gl : w.heap.size < g := by rw [hg.out]; omega
  have zg : z1 < g := by rw [hg.out, hz1.out]; omega
  have zl1 : w.heap.size ≤ z1 := by rw [hz1.out]; omega
  have zne : w.heap.size ≠ z1 := by rw [hz1.out]; omega
  have zne2 := Ne.symm zne
  have gW : g < W0.heap.size := CU.out.lt
  clear h
  go_enter Try.func33, Try.ntmps33
  go_wp2_with fail
  rw [← hW0.out, ← hg.out, ← hz1.out]
  clear hW0 hg hz1
  refine (cu.sheet_m W0 g 0 CU.out (by omega)).mono ?_
  rintro e w1 ⟨Ai, ni, ci, Av, nv, cv, Ar, nr, cr, rfl, sr, cu, tc⟩
  obtain ⟨w2, hw2⟩ : ∃ w2, Hid (w2 = w1.alloc (.cells #[.slice Ai ni ci, .slice Av nv cv, .slice Ar nr cr] 28)) := ⟨_, rfl⟩
  obtain ⟨ba, hb⟩ : ∃ b, Hid (b = w1.heap.size) := ⟨_, rfl⟩
  have SC : Hid (QD W0 g (0 + 1000000) w2 ba w.heap.size z1 #[.slice none 0 0, .slice none 0 0, .slice none 0 0] 28 Ai ni ci Av nv cv Ar nr cr) := by
    have x2 : Ext w1 w2 := by rw [hw2.out]; exact Ext.alloc w1 _
    have hs := tc.size
    exact ⟨tc.stepX x2, cu.ext x2, by rw [hw2.out, hb.out]; exact Blk.new rfl _ _, (BX.out.tchF tc (by simp; omega)).ext x2, (BM.out.tchF tc (by simp; omega)).ext x2, sr.since (Since.of_ext x2), gW, gl, zg, by rw [hb.out]; omega⟩
  clear sr cu tc CU BX BM
  have gb := SC.out.gb; have u1 : ba ≠ w.heap.size := (by omega); have v1 := Ne.symm u1; have u3 : ba ≠ z1 := (by omega); have v3 := Ne.symm u3
  have q8 := SC.out.bx.cell; have l8 := SC.out.bx.lt
  obtain ⟨d, hok, hrd⟩ := SC.out.rd
  have hr0 := hrd w2 (Since.refl _ _)
  have RD := hide (fun (wq : World) (k : TchF [g] w2 wq) => hrd wq (Since.of_tchS k (by simpa using gW)))
  have OKD := hide hok
  clear hrd hr0 hok
  go_wp2_with fail
  rw [← hw2.out, ← hb.out]
  clear hw2 hb
  refine (s.caGood_m w2 _ d (RD.out w2 (TchF.of_ext (Ext.refl _))) OKD.out).mono ?_
  rintro e w3 ⟨rfl, x3⟩
  have SD := hide (SC.out.ext x3)
  have K3 := hide ((TchF.of_ext x3 : TchF [g] w2 w3))
  clear SC x3 q8 l8
  have SC := SD
  clear SD
  cases hs : sheetB d
  · skip
    have BZ := hide SC.out.bz; have BO := hide SC.out.b1; have BA := hide SC.out.bx
    have q8 := BA.out.cell; have l8 := BA.out.lt; have q0 := BZ.out.cell; have f0 := BZ.out.free; have l0 := BZ.out.lt; have q1 := BO.out.cell; have f1 := BO.out.free; have l1 := BO.out.lt
    go_wp2_with fail
    go_region_law (go_simp; first | (go_at_call 36; refine (cu.sheet_m _ g _ (SC.out.cu.ext (by first | with_reducible exact Ext.refl _ | with_reducible exact Ext.drew _)) (by omega)).mono ?_; rintro e w7 ⟨Bi, mi, di, Bv, mv, dv, Br, mr, dr, rfl, s7, c7, k7⟩; have K7 := hide (TchF.after (w := w3) (fp' := [g, w.heap.size, z1]) (by first | with_reducible exact Ext.refl _ | with_reducible exact Ext.drew _) k7 (by simp)); have S7 := hide (ShR.after (by first | with_reducible exact Ext.refl _ | with_reducible exact Ext.drew _) SC.out.k.size s7); have BZ' := hide ((BZ.out.ext (by first | with_reducible exact Ext.refl _ | with_reducible exact Ext.drew _)).tchF k7 (by simp; omega)); have BO' := hide ((BO.out.ext (by first | with_reducible exact Ext.refl _ | with_reducible exact Ext.drew _)).tchF k7 (by simp; omega)); have BA' := hide ((BA.out.ext (by first | with_reducible exact Ext.refl _ | with_reducible exact Ext.drew _)).tchF k7 (by simp; omega)); have BZ := BZ'; have BO := BO'; have BA := BA'; clear BZ' BO' BA'; have q8 := BA.out.cell; have l8 := BA.out.lt; have q0 := BZ.out.cell; have f0 := BZ.out.free; have l0 := BZ.out.lt; have q1 := BO.out.cell; have f1 := BO.out.free; have l1 := BO.out.lt; clear s7 c7 k7) | (go_at_call 36; refine (cu.sheet_m _ g _ ((SC.out.cu.ext (by first | with_reducible exact Ext.refl _ | with_reducible exact Ext.drew _)).tchF (setS_tch _ w.heap.size _ _ _) (by simp; omega)) (by omega)).mono ?_; rintro e w7 ⟨Bi, mi, di, Bv, mv, dv, Br, mr, dr, rfl, s7, c7, k7⟩; have K7 := hide (TchF.afterS (w := w3) (fp' := [g, w.heap.size, z1]) (by first | with_reducible exact Ext.refl _ | with_reducible exact Ext.drew _) k7 (by simp) (by simp)); have S7 := hide (ShR.afterS (by first | with_reducible exact Ext.refl _ | with_reducible exact Ext.drew _) SC.out.k.size s7); have BZ' := hide (((BZ.out.ext (by first | with_reducible exact Ext.refl _ | with_reducible exact Ext.drew _)).set3 _ _ _).tchF k7 (by simp; omega)); have BO' := hide (((BO.out.ext (by first | with_reducible exact Ext.refl _ | with_reducible exact Ext.drew _)).tchF (setS_tch _ w.heap.size _ _ _) (by simp; omega)).tchF k7 (by simp; omega)); have BA' := hide (((BA.out.ext (by first | with_reducible exact Ext.refl _ | with_reducible exact Ext.drew _)).tchF (setS_tch _ w.heap.size _ _ _) (by simp; omega)).tchF k7 (by simp; omega)); have BZ := BZ'; have BO := BO'; have BA := BA'; clear BZ' BO' BA'; have q8 := BA.out.cell; have l8 := BA.out.lt; have q0 := BZ.out.cell; have f0 := BZ.out.free; have l0 := BZ.out.lt; have q1 := BO.out.cell; have f1 := BO.out.free; have l1 := BO.out.lt; clear s7 c7 k7))
    all_goals
      go_wp2
      refine bodyPost_ret (v := .tuple #[.agg #[.slice Ai ni ci, .slice Av nv cv, .slice Ar nr cr], .agg #[.slice Bi mi di, .slice Bv mv dv, .slice Br mr dr]]) (by simp [results, Try.results33, go_sem, q0, q1]) rfl ?_
      first
        | exact SC.out.res1 K7.out S7.out w (Nat.le_refl _) zl1 X.out _ _ _ _ _ _
        | exact SC.out.res2 K7.out S7.out w (Nat.le_refl _) zl1 X.out _ _ _ _ _ _
        | exact SC.out.res3 K7.out S7.out w (Nat.le_refl _) zl1 X.out _ _ _
  · have HS3 := hide hs
    clear hs
    go_wp2_with fail
    refine (cu.one_m _ g _ _ SC.out.cu (by omega) (by unfold InR; omega)).mono ?_
    rintro e w4 ⟨r, rfl, c7, k7⟩
    have SD := hide (SC.out.step (Ext.refl _) k7 c7)
    have K4 := hide (K3.out.trans k7)
    clear c7 k7 SC K3
    have SC := SD
    clear SD
    cases r
    rotate_left
    · skip
      have BZ := hide SC.out.bz; have BO := hide SC.out.b1; have BA := hide SC.out.bx
      have q8 := BA.out.cell; have l8 := BA.out.lt; have q0 := BZ.out.cell; have f0 := BZ.out.free; have l0 := BZ.out.lt; have q1 := BO.out.cell; have f1 := BO.out.free; have l1 := BO.out.lt
      go_wp2_with fail
      go_region_law (go_simp; first | (go_at_call 36; refine (cu.sheet_m _ g _ (SC.out.cu.ext (by first | with_reducible exact Ext.refl _ | with_reducible exact Ext.drew _)) (by omega)).mono ?_; rintro e w7 ⟨Bi, mi, di, Bv, mv, dv, Br, mr, dr, rfl, s7, c7, k7⟩; have K7 := hide (TchF.after (w := w4) (fp' := [g, w.heap.size, z1]) (by first | with_reducible exact Ext.refl _ | with_reducible exact Ext.drew _) k7 (by simp)); have S7 := hide (ShR.after (by first | with_reducible exact Ext.refl _ | with_reducible exact Ext.drew _) SC.out.k.size s7); have BZ' := hide ((BZ.out.ext (by first | with_reducible exact Ext.refl _ | with_reducible exact Ext.drew _)).tchF k7 (by simp; omega)); have BO' := hide ((BO.out.ext (by first | with_reducible exact Ext.refl _ | with_reducible exact Ext.drew _)).tchF k7 (by simp; omega)); have BA' := hide ((BA.out.ext (by first | with_reducible exact Ext.refl _ | with_reducible exact Ext.drew _)).tchF k7 (by simp; omega)); have BZ := BZ'; have BO := BO'; have BA := BA'; clear BZ' BO' BA'; have q8 := BA.out.cell; have l8 := BA.out.lt; have q0 := BZ.out.cell; have f0 := BZ.out.free; have l0 := BZ.out.lt; have q1 := BO.out.cell; have f1 := BO.out.free; have l1 := BO.out.lt; clear s7 c7 k7) | (go_at_call 36; refine (cu.sheet_m _ g _ ((SC.out.cu.ext (by first | with_reducible exact Ext.refl _ | with_reducible exact Ext.drew _)).tchF (setS_tch _ w.heap.size _ _ _) (by simp; omega)) (by omega)).mono ?_; rintro e w7 ⟨Bi, mi, di, Bv, mv, dv, Br, mr, dr, rfl, s7, c7, k7⟩; have K7 := hide (TchF.afterS (w := w4) (fp' := [g, w.heap.size, z1]) (by first | with_reducible exact Ext.refl _ | with_reducible exact Ext.drew _) k7 (by simp) (by simp)); have S7 := hide (ShR.afterS (by first | with_reducible exact Ext.refl _ | with_reducible exact Ext.drew _) SC.out.k.size s7); have BZ' := hide (((BZ.out.ext (by first | with_reducible exact Ext.refl _ | with_reducible exact Ext.drew _)).set3 _ _ _).tchF k7 (by simp; omega)); have BO' := hide (((BO.out.ext (by first | with_reducible exact Ext.refl _ | with_reducible exact Ext.drew _)).tchF (setS_tch _ w.heap.size _ _ _) (by simp; omega)).tchF k7 (by simp; omega)); have BA' := hide (((BA.out.ext (by first | with_reducible exact Ext.refl _ | with_reducible exact Ext.drew _)).tchF (setS_tch _ w.heap.size _ _ _) (by simp; omega)).tchF k7 (by simp; omega)); have BZ := BZ'; have BO := BO'; have BA := BA'; clear BZ' BO' BA'; have q8 := BA.out.cell; have l8 := BA.out.lt; have q0 := BZ.out.cell; have f0 := BZ.out.free; have l0 := BZ.out.lt; have q1 := BO.out.cell; have f1 := BO.out.free; have l1 := BO.out.lt; clear s7 c7 k7))
      all_goals
        go_wp2
        refine bodyPost_ret (v := .tuple #[.agg #[.slice Ai ni ci, .slice Av nv cv, .slice Ar nr cr], .agg #[.slice Bi mi di, .slice Bv mv dv, .slice Br mr dr]]) (by simp [results, Try.results33, go_sem, q0, q1]) rfl ?_
        first
          | exact SC.out.res1 K7.out S7.out w (Nat.le_refl _) zl1 X.out _ _ _ _ _ _
          | exact SC.out.res2 K7.out S7.out w (Nat.le_refl _) zl1 X.out _ _ _ _ _ _
          | exact SC.out.res3 K7.out S7.out w (Nat.le_refl _) zl1 X.out _ _ _
    · skip
      have SB3 := hide (sheetB_votes HS3.out)
      have hs := HS3.out
      have WT := hide (sheetB_wt HS3.out)
      have SHP := hide (sheetB_shp HS3.out)
      have RD4 := hide (RD.out w4 K4.out)
      have CU4 := hide SC.out.cu
      have BA4 := hide SC.out.bx
      have k00 := SC.out.k.size
      have q8 := BA4.out.cell; have l8 := BA4.out.lt
      go_wp2_with fail
      refine (s.caOwn_m w4 _ d RD4.out OKD.out SB3).mono ?_
      rintro e w5 ⟨v', rfl, fr, x5⟩
      obtain ⟨A3, c3, A5, c5, A4, c4, fp1, fp2, fp3, rfl, su⟩ := ShU.ofOwn CU4.out x5 fr
      clear fr
      obtain ⟨n, hnn⟩ : ∃ nn : Nat, Hid (d.1.length = nn) := ⟨_, rfl⟩
      obtain ⟨ne, hne⟩ : ∃ ne : Nat, Hid (d.2.2.length = ne) := ⟨_, rfl⟩
      rw [hnn.out, hne.out, SB3.out] at su
      rw [hnn.out, hne.out, SB3.out]
      obtain ⟨w6, hw6⟩ : ∃ w6, Hid (w6 = w5.alloc (.cells #[.slice A3 n c3, .slice A5 3 c5, .slice A4 ne c4] 28)) := ⟨_, rfl⟩
      obtain ⟨b, hb⟩ : ∃ b, Hid (b = w5.heap.size) := ⟨_, rfl⟩
      rw [← hw6.out, ← hb.out] at su
      have SU := hide su
      clear su x5
      have n14 : n ≤ 14 := by have := WT.out.2.2.2.1; rw [hnn.out] at this; exact this
      have nz14 : (n : Int) ≤ 14 := by omega
      obtain ⟨ns, hns⟩ : ∃ ns, Hid (d.1.map (fun x => x.1.length) = ns) := ⟨_, rfl⟩
      have SH0 : Hid (Shp ns d.2.1) := by rw [← hns.out]; exact SHP.out
      have NSL : Hid (ns.length = n) := by rw [← hns.out, List.length_map]; exact hnn.out
      have NX : Hid (∀ (i : Nat) (x : ItD), d.1[i]? = some x → ns.getD i 0 = x.1.length ∧ 1 ≤ x.1.length ∧ x.1.length ≤ 3) := fun i x hx => ⟨by rw [← hns.out, List.getD_eq_getElem?_getD, List.getElem?_map, hx]; rfl, sheetB_names HS3.out hx⟩
      have WV := hide WT.out.2.1
      have OKV : Hid (∀ vs : List (List (List Int)), wtL kdLL vs ≤ 1000 → kSm.ok ((d.1, vs, d.2.2) : ShD) ∧ kSm.ok ((d.1, vs, []) : ShD)) := fun vs hv => ⟨kSm_ok (by have := WT.out.1; show wtL kdItem d.1 ≤ 1000; omega) hv (by have := WT.out.2.2.1; show wtL kdRv d.2.2 ≤ 1000; omega), kSm_ok (by have := WT.out.1; show wtL kdItem d.1 ≤ 1000; omega) hv (by show wtL kdRv [] ≤ 1000; simp [wtL])⟩
      have gl4 := SU.out.gl
      go_upto_region 6 with fail
      rw [← hw6.out, ← hb.out]
      clear hw6 hb
      go_wp2_with fail
      refine (cu.pick_m _ g _ _ SU.out.cu (by omega) (by unfold InR; omega)).mono ?_
      rintro e w7 ⟨r, rfl, r0, r1, -, c7, k7⟩
      have r2 := r1 (by omega)
      obtain ⟨k0, rfl⟩ : ∃ k : Nat, r = k := ⟨r.toNat, by omega⟩
      have SV := hide (SU.out.curs k7 c7)
      clear c7 k7 SU r1 RD4
      go_upto_block 0 with fail
      go_cut [] (fun wx => ∃ vs, Shp ns vs ∧ wtL kdLL vs ≤ 1000 ∧ ShU w4 g (0 + 1000500) wx b n A3 c3 d.1 fp1 A5 3 c5 vs fp2 A4 ne c4 d.2.2 fp3)
      case first =>
        go_wp2_with fail
        go_loopw [7] (fun s7 wr => ∃ (k : Nat) (vs : List (List (List Int))), s7 = .int .i64 k ∧ k < 4 ∧ Shp ns vs ∧ wtL kdLL vs ≤ 1000 ∧ ShU w4 g (0 + 1000004 + 10 * (3 - k)) wr b n A3 c3 d.1 fp1 A5 3 c5 vs fp2 A4 ne c4 d.2.2 fp3) (fun s7 _ => (intOf s7).toNat)
        case atStart => exact ⟨k0, _, by go_num, by omega, SH0.out, by have := WV.out; omega, SV.out.more (by omega)⟩
        case round =>
          clear SH0 SV r0 r2
          obtain ⟨k', vs, rfl, hk4, sh, wt, su⟩ := hrel
          have SH := hide sh
          have SU := hide su
          have WTV := hide wt
          clear sh su wt
          have q5 := SU.out.bx.cell; have p5 := SU.out.bx.free; have l5 := SU.out.bx.lt
          by_cases hk0 : 0 < k'
          · have kz' : (0 : Int) < (k' : Int) := by omega
            have kz4 : (k' : Int) < 4 := by omega
            by_cases hn0 : 0 < n
            · have nz0 : (0 : Int) < (n : Int) := by omega
              go_wp2_with fail
              refine (cu.pick_m _ g _ _ SU.out.cu (by omega) (by unfold InR; omega)).mono ?_
              rintro e w9 ⟨iz0, rfl, i0, i1, -, c7, k7⟩
              have i2 := i1 (by omega)
              obtain ⟨i, rfl⟩ : ∃ i : Nat, iz0 = i := ⟨iz0.toNat, by omega⟩
              have SV := hide (SU.out.curs k7 c7)
              clear c7 k7 SU i1 q5 p5 l5
              have SU := SV
              clear SV
              have hin : i < n := by omega
              have iz : (i : Int) < (n : Int) := i2
              obtain ⟨x0, hx0⟩ : ∃ x, Hid (d.1[i]? = some x) := get_ex d.1 i (by have := hnn.out; omega)
              obtain ⟨m, hm⟩ : ∃ m, Hid (ns.getD i 0 = m) := ⟨_, rfl⟩
              have nx := NX.out i x0 hx0.out
              have mp : 0 < m := by have := hm.out; omega
              have mp3 : m ≤ 3 := by have := hm.out; omega
              have mz : (0 : Int) < (m : Int) := by omega
              have mz3 : (m : Int) ≤ 3 := by omega
              have xm : x0.1.length = m := by have := hm.out; omega
              clear nx
              obtain ⟨gv, v1, d1, v2, d2, av, rs3, all3⟩ := SU.out.all3 SH.out NSL.out hin hm.out mp
              have A3 : Hid (∀ cl, cl < 3 → ∀ k, k < m → ∃ v x, vs[cl]? = some v ∧ v[i]? = some x ∧ k < x.length ∧ SpV w9 w4 A5 fp2 gv (v1 cl) (d1 cl) (v2 cl) (d2 cl) n m cl i k) := fun cl hc k hk => by
                obtain ⟨v, x, hv, hx, hl, s⟩ := all3 cl hc
                have hs1 := SH.out.2 cl v hv
                have hxl := hs1.2 i x hx
                have kx : k < x.length := by rw [hxl, hm.out]; exact hk
                exact ⟨v, x, hv, hx, kx, SU.out.spvAt s hv hx kx (by rw [hs1.1]; exact NSL.out) (by rw [hxl]; exact hm.out)⟩
              have R3 := hide rs3
              have gvl : w4.heap.size ≤ gv ∧ gv < w9.heap.size := by obtain ⟨_, _, _, _, _, s⟩ := A3.out 0 (by omega) 0 mp; exact s.l0
              have v1l : ∀ cl, cl < 3 → w4.heap.size ≤ v1 cl ∧ v1 cl < w9.heap.size := fun cl hc => by obtain ⟨_, _, _, _, _, s⟩ := A3.out cl hc 0 mp; exact s.l1
              have V1L := hide v1l
              clear all3 rs3 v1l
              obtain ⟨gi, B, C, ai, nc, gim⟩ := SU.out.spn hx0.out
              rw [xm] at nc
              have gil : w4.heap.size ≤ gi ∧ gi < w9.heap.size := ⟨(SU.out.d1 gi gim).1, SU.out.oi.lt gi gim⟩
              have NC := hide nc
              clear nc
              have BX := hide SU.out.bx
              have l5 := SU.out.bx.lt
              have hb4 := SU.out.hb
              have bne : b ≠ g := by omega
              have gvne : gv ≠ g := by omega
              have gine : gi ≠ g := by omega
              subst av
              subst ai
              have NK : Hid (∀ (wq : World) (q : Addr) (z : Int) (MQ : Nat) (vs' : List (List (List Int))), TchF [g] w9 wq → q.spot = none → ShU w4 g MQ (wq.setCell q (.int .i64 z)) b n (some ⟨gi, 0, none⟩) c3 d.1 fp1 (some ⟨gv, 0, none⟩) 3 c5 vs' fp2 A4 ne c4 d.2.2 fp3 → (wq.setCell q (.int .i64 z)).cell? ⟨gi, i * 3, none⟩ = some (.slice B m C)) := fun wq q z MQ vs' kq hq hU => by
                obtain ⟨gi', B', C', e0, e1, -⟩ := hU.spn hx0.out
                simp only [Option.some.injEq, Addr.mk.injEq, and_true] at e0
                subst e0
                have e2 := slice_kept e1 hq rfl
                rw [e1, ← e2]
                exact (kq.cell (p := ⟨gi, i * 3, none⟩) gil.2 (by simpa using gine)).trans NC.out
              have HS : Hid (∀ wq, TchF [g] w9 wq → wq.cell? ⟨b, 0, none⟩ = some (.slice (some ⟨gi, 0, none⟩) n c3) ∧ wq.cell? ⟨b, 1, none⟩ = some (.slice (some ⟨gv, 0, none⟩) 3 c5) ∧ wq.cell? ⟨gi, i * 3, none⟩ = some (.slice B m C) ∧ (∀ cl : Nat, cl < 3 → wq.cell? ⟨gv, cl, none⟩ = some (.slice (some ⟨v1 cl, 0, none⟩) n (d1 cl))) ∧ ∀ cl : Nat, cl < 3 → wq.cell? ⟨v1 cl, i, none⟩ = some (.slice (some ⟨v2 cl, 0, none⟩) m (d2 cl))) := fun wq k =>
                ⟨(BX.out.tchF k (by simpa using bne)).cell 0, (BX.out.tchF k (by simpa using bne)).cell 1, (k.cell (p := ⟨gi, i * 3, none⟩) gil.2 (by simpa using gine)).trans NC.out, fun cl hc => (k.cell (p := ⟨gv, cl, none⟩) gvl.2 (by simpa using gvne)).trans (R3.out.1 cl hc), fun cl hc => (k.cell (p := ⟨v1 cl, i, none⟩) (V1L.out cl hc).2 (by have := (V1L.out cl hc).1; simp; omega)).trans (R3.out.2 cl hc)⟩
              have KC : Hid (TchF [g] w9 w9) := TchF.of_ext (Ext.refl _)
              clear l5
              go_wp2_with fail
              go_region_held3 (fun wq => wq.cell? ⟨b, 0, none⟩ = some (.slice (some ⟨gi, 0, none⟩) n c3) ∧ wq.cell? ⟨b, 1, none⟩ = some (.slice (some ⟨gv, 0, none⟩) 3 c5) ∧ wq.cell? ⟨gi, i * 3, none⟩ = some (.slice B m C) ∧ (∀ cl : Nat, cl < 3 → wq.cell? ⟨gv, cl, none⟩ = some (.slice (some ⟨v1 cl, 0, none⟩) n (d1 cl))) ∧ ∀ cl : Nat, cl < 3 → wq.cell? ⟨v1 cl, i, none⟩ = some (.slice (some ⟨v2 cl, 0, none⟩) m (d2 cl)))
                (first
                  | exact HS.out _ (TchF.of_ext (by with_reducible exact Ext.drew _))
                  | exact HF.out _
                  | exact HS.out _ KC.out)
                (first
                    | (go_at_call 38; have q1 := HB; have q2 := HC; refine (cu.pick_m _ g _ _ (SU.out.cu.ext (by first | with_reducible exact Ext.refl _ | with_reducible exact Ext.drew _)) (by omega) (by first | exact inr_wrap _ | (unfold InR; omega))).mono ?_; rintro e w7 ⟨zi, rfl, zi0, zi1, -, c7, k7⟩; have hc := (zi1 (by omega) : zi < 3); obtain ⟨cl, rfl⟩ : ∃ cl : Nat, zi = cl := ⟨zi.toNat, by omega⟩; have cz : (cl : Int) < 3 := (by omega); have hcl : cl < 3 := (by omega); have HA := hide hcl; clear hc; have SU := hide (SU.out.step (by first | with_reducible exact Ext.refl _ | with_reducible exact Ext.drew _) k7 c7); have KC := hide ((KC.out.stepX (by first | with_reducible exact Ext.refl _ | with_reducible exact Ext.drew _)).trans k7); clear c7 k7 zi1; obtain ⟨v, x, hv, hx, hk, sp⟩ := A3.out cl hcl k hkm; have HV := hide hv; have HX := hide hx; have HK := hide hk; have SP := hide (sp.curs gl4 KC.out); have SU9 := hide (fun zz => SU.out.vote SP.out HV.out HX.out HK.out zz); have HF := hide (fun zz => And.intro ((SU9.out zz).bx.cell 0) (And.intro ((SU9.out zz).bx.cell 1) (And.intro (NK.out _ _ zz _ _ KC.out rfl (SU9.out zz)) (RowsV.put ⟨(HS.out _ KC.out).2.2.2.1, (HS.out _ KC.out).2.2.2.2⟩ rfl (SU9.out zz) (SH.out.set cl i k zz HV.out HX.out) NSL.out hin hm.out mp rfl)))); have fr := SP.out.fr; obtain ⟨zu, h2⟩ := SP.out.h2; have sl2 := SP.out.l2; have sl0 := SP.out.l0; have sl1 := SP.out.l1; clear hv hx hk sp)
                    | (go_at_call 38; have q1 := HA; have q2 := HC; refine (cu.pick_m _ g _ _ (SU.out.cu.ext (by first | with_reducible exact Ext.refl _ | with_reducible exact Ext.drew _)) (by omega) (by first | exact inr_wrap _ | (unfold InR; omega))).mono ?_; rintro e w7 ⟨zi, rfl, zi0, zi1, -, c7, k7⟩; have hc := (zi1 (by omega) : zi < (m : Int)); obtain ⟨k, rfl⟩ : ∃ k : Nat, zi = k := ⟨zi.toNat, by omega⟩; have kz : (k : Int) < (m : Int) := (by omega); have hkm : k < m := (by omega); have HB := hide hkm; clear hc; have SU := hide (SU.out.step (by first | with_reducible exact Ext.refl _ | with_reducible exact Ext.drew _) k7 c7); have KC := hide ((KC.out.stepX (by first | with_reducible exact Ext.refl _ | with_reducible exact Ext.drew _)).trans k7); clear c7 k7 zi1; obtain ⟨v, x, hv, hx, hk, sp⟩ := A3.out cl hcl k hkm; have HV := hide hv; have HX := hide hx; have HK := hide hk; have SP := hide (sp.curs gl4 KC.out); have SU9 := hide (fun zz => SU.out.vote SP.out HV.out HX.out HK.out zz); have HF := hide (fun zz => And.intro ((SU9.out zz).bx.cell 0) (And.intro ((SU9.out zz).bx.cell 1) (And.intro (NK.out _ _ zz _ _ KC.out rfl (SU9.out zz)) (RowsV.put ⟨(HS.out _ KC.out).2.2.2.1, (HS.out _ KC.out).2.2.2.2⟩ rfl (SU9.out zz) (SH.out.set cl i k zz HV.out HX.out) NSL.out hin hm.out mp rfl)))); have fr := SP.out.fr; obtain ⟨zu, h2⟩ := SP.out.h2; have sl2 := SP.out.l2; have sl0 := SP.out.l0; have sl1 := SP.out.l1; clear hv hx hk sp)
                    | (go_at_call 38; have q1 := HA; have q2 := HB; refine (cu.pick_m _ g _ _ (SU.out.cu.ext (by first | with_reducible exact Ext.refl _ | with_reducible exact Ext.drew _)) (by omega) (by first | exact inr_wrap _ | (unfold InR; omega))).mono ?_; rintro e w7 ⟨zi, rfl, zi0, zi1, -, c7, k7⟩; have hc := (zi1 (by omega) : zi < 5); have HC := hide hc; clear hc; have SU := hide (SU.out.step (by first | with_reducible exact Ext.refl _ | with_reducible exact Ext.drew _) k7 c7); have KC := hide ((KC.out.stepX (by first | with_reducible exact Ext.refl _ | with_reducible exact Ext.drew _)).trans k7); clear c7 k7 zi1; obtain ⟨v, x, hv, hx, hk, sp⟩ := A3.out cl hcl k hkm; have HV := hide hv; have HX := hide hx; have HK := hide hk; have SP := hide (sp.curs gl4 KC.out); have SU9 := hide (fun zz => SU.out.vote SP.out HV.out HX.out HK.out zz); have HF := hide (fun zz => And.intro ((SU9.out zz).bx.cell 0) (And.intro ((SU9.out zz).bx.cell 1) (And.intro (NK.out _ _ zz _ _ KC.out rfl (SU9.out zz)) (RowsV.put ⟨(HS.out _ KC.out).2.2.2.1, (HS.out _ KC.out).2.2.2.2⟩ rfl (SU9.out zz) (SH.out.set cl i k zz HV.out HX.out) NSL.out hin hm.out mp rfl)))); have fr := SP.out.fr; obtain ⟨zu, h2⟩ := SP.out.h2; have sl2 := SP.out.l2; have sl0 := SP.out.l0; have sl1 := SP.out.l1; clear hv hx hk sp)
                    | (go_at_call 38; refine (cu.pick_m _ g _ _ (SU.out.cu.ext (by first | with_reducible exact Ext.refl _ | with_reducible exact Ext.drew _)) (by omega) (by first | exact inr_wrap _ | (unfold InR; omega))).mono ?_; rintro e w7 ⟨zi, rfl, zi0, zi1, -, c7, k7⟩; have hc := (zi1 (by omega) : zi < 3); obtain ⟨cl, rfl⟩ : ∃ cl : Nat, zi = cl := ⟨zi.toNat, by omega⟩; have cz : (cl : Int) < 3 := (by omega); have hcl : cl < 3 := (by omega); have HA := hide hcl; clear hc; have SU := hide (SU.out.step (by first | with_reducible exact Ext.refl _ | with_reducible exact Ext.drew _) k7 c7); have KC := hide ((KC.out.stepX (by first | with_reducible exact Ext.refl _ | with_reducible exact Ext.drew _)).trans k7); clear c7 k7 zi1)
                    | (go_at_call 38; refine (cu.pick_m _ g _ _ (SU.out.cu.ext (by first | with_reducible exact Ext.refl _ | with_reducible exact Ext.drew _)) (by omega) (by first | exact inr_wrap _ | (unfold InR; omega))).mono ?_; rintro e w7 ⟨zi, rfl, zi0, zi1, -, c7, k7⟩; have hc := (zi1 (by omega) : zi < (m : Int)); obtain ⟨k, rfl⟩ : ∃ k : Nat, zi = k := ⟨zi.toNat, by omega⟩; have kz : (k : Int) < (m : Int) := (by omega); have hkm : k < m := (by omega); have HB := hide hkm; clear hc; have SU := hide (SU.out.step (by first | with_reducible exact Ext.refl _ | with_reducible exact Ext.drew _) k7 c7); have KC := hide ((KC.out.stepX (by first | with_reducible exact Ext.refl _ | with_reducible exact Ext.drew _)).trans k7); clear c7 k7 zi1)
                    | (go_at_call 38; refine (cu.pick_m _ g _ _ (SU.out.cu.ext (by first | with_reducible exact Ext.refl _ | with_reducible exact Ext.drew _)) (by omega) (by first | exact inr_wrap _ | (unfold InR; omega))).mono ?_; rintro e w7 ⟨zi, rfl, zi0, zi1, -, c7, k7⟩; have hc := (zi1 (by omega) : zi < 5); have HC := hide hc; clear hc; have SU := hide (SU.out.step (by first | with_reducible exact Ext.refl _ | with_reducible exact Ext.drew _) k7 c7); have KC := hide ((KC.out.stepX (by first | with_reducible exact Ext.refl _ | with_reducible exact Ext.drew _)).trans k7); clear c7 k7 zi1))
              all_goals
                go_wp2
                go_roundw
                case rel => exact ⟨k' - 1, _, by go_num, by omega, SH.out.set cl i k _ HV.out HX.out, by rw [wt_vote HV.out HX.out]; exact WTV.out, (SU9.out _).more (by omega)⟩
                case measure => simp [intOf]; omega
            · obtain rfl : n = 0 := by omega
              go_wp2
              go_meet
              exact ⟨vs, SH.out, WTV.out, SU.out.more (by omega)⟩
          · obtain rfl : k' = 0 := by omega
            go_wp2
            go_meet
            exact ⟨vs, SH.out, WTV.out, SU.out.more (by omega)⟩
      case rest =>
        obtain ⟨vs, sh, wt, su⟩ := hcut
        obtain ⟨wq, rfl⟩ : ∃ wq : World, wq = wc := ⟨_, rfl⟩
        clear SH0 SV r0 r2
        have SU := hide su
        have WTV := hide wt
        clear su wt sh
        go_wp2_with fail
        refine (cu.one_m _ g _ _ SU.out.cu (by omega) (by unfold InR; omega)).mono ?_
        rintro e w9 ⟨r, rfl, c7, k7⟩
        have SV := hide (SU.out.curs k7 c7)
        clear c7 k7 SU
        have SU := SV
        clear SV
        have OKS := hide (OKV.out vs WTV.out)
        go_upto_if 66 with fail
        go_cut [] (fun wx => ∃ (Rx : Option Addr) (nr2 cr2 : Nat), ShE w4 g (0 + 1000600) wx b A3 n c3 A5 3 c5 Rx nr2 cr2)
        case first =>
          have l5 := SU.out.bx.lt
          have q5 := SU.out.bx.cell; have p5 := SU.out.bx.free
          cases r
          · go_wp2
            go_meet
            exact ⟨_, _, _, SU.out.toE (by omega) OKS.out.1⟩
          · go_wp2
            go_meet
            exact ⟨none, 0, 0, SU.out.nilE (by omega) OKS.out.2⟩
        case rest =>
          obtain ⟨Rx, nr2, cr2, se⟩ := hcut
          obtain ⟨wf, rfl⟩ : ∃ wq : World, wq = wc := ⟨_, rfl⟩
          have SE := hide se
          clear se SU
          have K9 := hide (SE.out.k.more (fp' := [g, w.heap.size, z1]) (by simp))
          have S9 := hide (SE.out.rd W0.heap.size k00)
          have BZ := hide (SC.out.bz.tchF SE.out.k (by simp; omega)); have BO := hide (SC.out.b1.tchF SE.out.k (by simp; omega)); have BA := hide (SC.out.bx.tchF SE.out.k (by simp; omega))
          have q5 := SE.out.bx.cell; have l5 := SE.out.bx.lt
          have hbb := SE.out.hb
          have q8 := BA.out.cell; have l8 := BA.out.lt; have q0 := BZ.out.cell; have f0 := BZ.out.free; have l0 := BZ.out.lt; have q1 := BO.out.cell; have f1 := BO.out.free; have l1 := BO.out.lt
          have x1 : b ≠ w.heap.size := (by have := SC.out.bz.lt; omega); have x2 := Ne.symm x1; have x3 : b ≠ z1 := (by have := SC.out.b1.lt; omega); have x4 := Ne.symm x3
          go_wp2_with fail
          go_region_law fail
          all_goals
            go_wp2
            refine bodyPost_ret (v := .tuple #[.agg #[.slice Ai ni ci, .slice Av nv cv, .slice Ar nr cr], .agg #[.slice A3 n c3, .slice A5 3 c5, .slice Rx nr2 cr2]]) (by simp [results, Try.results33, go_sem, q0, q1]) rfl ?_
            refine CCPost.drew ?_
            first
              | with_reducible exact SC.out.res1 K9.out S9.out w (Nat.le_refl _) zl1 X.out _ _ _ _ _ _
              | with_reducible exact SC.out.res2 K9.out S9.out w (Nat.le_refl _) zl1 X.out _ _ _ _ _ _
end Go.Proofs.Ytofmfagdaiphaaa

/- What the law of calls calls, over sheets that are read; its plain laws. -/
namespace Go.Proofs.Ytofmfagdaiphaaa
open Go.RowKit Go.Sort
set_option linter.unusedVariables false

theorem pairs_same {P Q : Nat → Nat → Bool} {xs ys : List ItD} (hn : xs.length = ys.length) (h : ∀ i, namesAt xs i = namesAt ys i) (hpq : ∀ i k, P i k = Q i k) : pairs P xs = pairs Q ys := by
  obtain rfl : P = Q := by funext i k; exact hpq i k
  unfold pairs pairsN
  rw [hn]
  simp only [h]
theorem sameB_symm (xs ys : List ItD) : sameB xs ys = sameB ys xs := by
  unfold sameB
  rw [decide_eq_decide]
  exact eq_comm
theorem chg_comm (a b : ShD) : chgF b a = chgF a b := by
  unfold chgF
  rw [sameB_symm b.1 a.1, Bool.and_comm (sheetB b) (sheetB a)]
  split
  · next h =>
    simp only [Bool.and_eq_true] at h
    obtain ⟨q1, q2⟩ := same_names h.2
    rw [pairs_same q1.symm (fun i => (q2 i).symm) (fun i k => show chgP b a i k = chgP a b i k by unfold chgP; exact bne_comm)]
  · rfl
theorem revF_le {l : List RvD} {i k : Nat} {q : Int} (h : ∀ r ∈ l, r.2.2 ≤ 3) (hq : q ≤ 3) : revF l i k q ≤ 3 := by
  unfold revF
  split
  · next r hr => exact h r (List.mem_reverse.1 (List.mem_of_find?_eq_some hr))
  · exact hq
theorem voteF_le (vs : List (List (List Int))) (i k : Nat) : voteF vs i k ≤ 3 := by
  unfold voteF
  split
  · omega
  · split
    · omega
    · split
      · omega
      · split <;> omega
theorem callF_le {d : ShD} (hs : sheetB d = true) (i k : Nat) : callF d i k ≤ 3 := by
  refine revF_le (fun r hr => ?_) (voteF_le _ _ _)
  simp only [sheetB, Bool.and_eq_true, List.all_eq_true] at hs
  have := hs.2 r hr
  simp only [reviewB, inB, Bool.and_eq_true, decide_eq_true_eq] at this
  exact this.2.2
theorem called_two (d : ShD) : (calledF d).2 = (sheetB d && decide ((openCallsF d).1.length = 0)) := by
  unfold calledF openCallsF
  cases sheetB d <;> simp
  split <;> simp_all
theorem open_two (d : ShD) : (openCallsF d).2 = sheetB d := by
  unfold openCallsF
  cases sheetB d <;> rfl
theorem final_called {d : ShD} (h : (finalF d).1 = true) : (calledF d).2 = true := by
  rw [called_two]
  unfold finalF at h
  split at h
  · next hs =>
    have h2 : (((pairs (missP d) d.1).length : Int) == 0) = true := h
    rw [final_eq hs] at h2
    simp only [Bool.and_eq_true, beq_iff_eq] at h2
    have h3 : (pairs (openP d) d.1).length = 0 := by omega
    simp only [openCallsF, hs, if_true, Bool.true_and, decide_eq_true_eq]
    exact h3
  · cases h
theorem called_law {d : ShD} (h : (calledF d).2 = true) : sheetB d = true ∧ (calledF d).1 = calF d ∧ itemsB (calF d) = true ∧ itemsB d.1 = true ∧ sameB (calF d) d.1 = true ∧ ∀ (i : Nat) (x : ItD), (calF d)[i]? = some x → x.1.length ≤ 3 ∧ ∀ k : Nat, k < x.2.1.length → callOfF d i k = (x.2.1.getD k 0, true) := by
  unfold calledF at h
  split at h
  · next hc =>
    have hc0 := hc
    simp only [Bool.and_eq_true, decide_eq_true_eq] at hc
    obtain ⟨hs, h0⟩ := hc
    have hop : ∀ i, i < d.1.length → ∀ k, k < (namesAt d.1 i).length → 0 ≤ callF d i k := fun i hi k hk => by
      have := (pairsN_nil (openP d) d.1 d.1.length).1 (List.length_eq_zero_iff.1 h0) i hi k hk
      unfold openP at this
      simpa using this
    have hit : itemsB d.1 = true := by
      simp only [sheetB, Bool.and_eq_true, cleanB] at hs
      exact hs.1.1.1.1.1
    have hib := hit
    simp only [itemsB, Bool.and_eq_true, List.all_eq_true, decide_eq_true_eq] at hib
    have at_ : ∀ (i : Nat) (hi : i < d.1.length), namesAt d.1 i = d.1[i].1 := fun i hi => by
      unfold namesAt
      rw [List.getD_eq_getElem?_getD, List.getElem?_eq_getElem hi]
      rfl
    refine ⟨hs, by unfold calledF; rw [if_pos hc0], ?_, hit, ?_, fun i x hx => ?_⟩
    · simp only [itemsB, Bool.and_eq_true, List.all_eq_true, decide_eq_true_eq]
      refine ⟨fun y hy => ?_, by rw [calF, List.length_mapIdx]; exact hib.2⟩
      obtain ⟨i, hi, rfl⟩ := List.mem_mapIdx.1 hy
      have hb := hib.1 d.1[i] (List.getElem_mem hi)
      have hlen := (itemB_ok hb).2.2
      simp only [itemB, Bool.and_eq_true, List.all_eq_true] at hb
      simp only [itemB, calIt, Bool.and_eq_true, List.all_eq_true, List.length_map, List.length_range]
      refine ⟨⟨hb.1.1, hb.1.2⟩, fun z hz => ?_⟩
      obtain ⟨k, hk, rfl⟩ := List.mem_map.1 hz
      have hk2 : k < d.1[i].2.1.length := List.mem_range.1 hk
      have := hop i hi k (by rw [at_ i hi]; omega)
      have := callF_le hs i k
      simp only [inB, Bool.and_eq_true, decide_eq_true_eq]
      omega
    · unfold sameB calF
      rw [decide_eq_true_eq]
      refine List.ext_getElem? fun i => ?_
      simp only [List.getElem?_map, List.getElem?_mapIdx, Option.map_map]
      rfl
    · obtain ⟨hi, rfl⟩ := List.getElem?_eq_some_iff.1 hx
      have hi' : i < d.1.length := by simpa [calF] using hi
      have e : (calF d)[i] = calIt d i d.1[i] := by simp [calF]
      rw [e]
      have hb := hib.1 d.1[i] (List.getElem_mem hi')
      obtain ⟨b1, b2, b3⟩ := itemB_ok hb
      refine ⟨b2, fun k hk => ?_⟩
      have hk2 : k < d.1[i].2.1.length := by simpa [calIt] using hk
      have hg : (calIt d i d.1[i]).2.1.getD k 0 = callF d i k := by simp [calIt, List.getD_eq_getElem?_getD, hk2]
      have hk3 : k < (namesAt d.1 i).length := by rw [at_ i hi']; omega
      have hc1 := hop i hi' k hk3
      have hn : hasName d.1 (i : Int) (k : Int) = true := by
        simp only [hasName, inB, Bool.and_eq_true, decide_eq_true_eq, Int.toNat_natCast]
        omega
      rw [hg]
      unfold callOfF
      simp only [Int.toNat_natCast]
      rw [if_pos (by rw [hs, hn, decide_eq_true hc1]; rfl)]
  · cases h
set_option maxRecDepth 100000 in
set_option maxHeartbeats 4000000 in
theorem i.SameCalls_m (w : World) (A A' : Option Addr) (c c' : Nat) (xs ys : List ItD) (h : LR kdItem w w.heap.size A c xs) (h' : LR kdItem w w.heap.size A' c' ys) (hx : wtL kdItem xs ≤ 1048576) (hy : wtL kdItem ys ≤ 1048576) (h1 : itemsB xs = true) (h2 : itemsB ys = true) (h3 : sameB xs ys = true) :
    Calls Try.prog 30 #[.slice A xs.length c, .slice A' ys.length c'] w fun e w' => e = .returned (.tuple #[.bool true, .bool true]) ∧ Ext w w' := by
  have AI := hide (i.AreItems_any w A c w.heap.size xs h (Nat.le_refl _) hx)
  have AJ := hide (fun (wq : World) (xq : Ext w wq) => i.AreItems_any wq A' c' w.heap.size ys (h'.ext xq (Nat.le_refl _)) xq.size hy)
  have SM := hide (fun (wq : World) (xq : Ext w wq) => i.sameNames_any wq A A' c c' w.heap.size xs ys (h.ext xq (Nat.le_refl _)) (h'.ext xq (Nat.le_refl _)) xq.size hx hy)
  rw [h1] at AI
  simp only [h2] at AJ
  simp only [h3] at SM
  clear h h' hx hy h1 h2 h3
  generalize xs.length = n at *
  generalize ys.length = m at *
  go_enter Try.func30, Try.ntmps30
  go_wp2_with fail
  refine AI.out.mono ?_
  rintro e w1 ⟨rfl, x1⟩
  go_wp2_with fail
  refine (AJ.out w1 x1).mono ?_
  rintro e w2 ⟨rfl, x2⟩
  go_wp2_with fail
  refine (SM.out w2 (x1.trans x2)).mono ?_
  rintro e w3 ⟨rfl, x3⟩
  go_wp2
  go_ret2
  exact ⟨rfl, (x1.trans x2).trans x3⟩
/-- A list of lists, of numbers, of items that is read. -/
structure Lq (w : World) (A : Option Addr) (n c : Nat) (D : List (List Int)) : Prop where
  rd : kII.rd w (.slice A n c) D
  ok : kII.ok D
structure Iq (w : World) (A : Option Addr) (n c : Nat) (D : List Int) : Prop where
  rd : kI.rd w (.slice A n c) D
  ok : kI.ok D
structure Tq (w : World) (A : Option Addr) (n c : Nat) (D : List ItD) : Prop where
  rd : kIt.rd w (.slice A n c) D
  ok : kIt.ok D
section
variable {w w' : World} {A A' : Option Addr} {n c n' c' : Nat}
theorem Lq.ext {D : List (List Int)} (h : Lq w A n c D) (x : Ext w w') : Lq w' A n c D := ⟨kII.rd_ext h.rd x, h.ok⟩
theorem Iq.ext {D : List Int} (h : Iq w A n c D) (x : Ext w w') : Iq w' A n c D := ⟨kI.rd_ext h.rd x, h.ok⟩
theorem Tq.ext {D : List ItD} (h : Tq w A n c D) (x : Ext w w') : Tq w' A n c D := ⟨kIt.rd_ext h.rd x, h.ok⟩
theorem Lq.lr {D : List (List Int)} (h : Lq w A n c D) : n = D.length ∧ LR kdL w w.heap.size A c D := by
  obtain ⟨vs, hv, A1, c1, rfl, hl⟩ := h.rd
  have hv : Value.slice A n c = .slice A1 D.length c1 := hv
  simp only [Value.slice.injEq] at hv
  obtain ⟨rfl, rfl, rfl⟩ := hv
  exact ⟨rfl, hl⟩
theorem Tq.lr {D : List ItD} (h : Tq w A n c D) : n = D.length ∧ LR kdItem w w.heap.size A c D := by
  obtain ⟨A1, c1, hv, hl⟩ := kIt_open h.rd
  simp only [Value.slice.injEq] at hv
  obtain ⟨rfl, rfl, rfl⟩ := hv
  exact ⟨rfl, hl⟩
theorem Iq.sl {D : List Int} (h : Iq w A n c D) : n = D.length ∧ SlI w w.heap.size A n D := by
  obtain ⟨A1, c1, hv, hl, -⟩ := h.rd
  simp only [Value.slice.injEq] at hv
  obtain ⟨rfl, rfl, rfl⟩ := hv
  exact ⟨rfl, hl⟩
theorem Lq.same {D : List (List Int)} (h : Lq w A n c D) (h' : Lq w A' n' c' D) : Calls Try.prog 28 #[.slice A n c, .slice A' n' c'] w fun e w' => e = .returned (.bool true) ∧ Ext w w' := by
  obtain ⟨rfl, l1⟩ := h.lr
  obtain ⟨rfl, l2⟩ := h'.lr
  exact l.sameLists_sm w A A' c c' D l1 l2 h.ok
theorem Tq.same {D : List ItD} (h : Tq w A n c D) (h' : Tq w A' n' c' D) : Calls Try.prog 27 #[.slice A n c, .slice A' n' c'] w fun e w' => e = .returned (.bool true) ∧ Ext w w' := by
  obtain ⟨rfl, l1⟩ := h.lr
  obtain ⟨rfl, l2⟩ := h'.lr
  exact l.pSameItems_sm w A A' c c' _ _ D l1 l2 (Nat.le_refl _) (Nat.le_refl _) h.ok
theorem Iq.same {D : List Int} (h : Iq w A n c D) (h' : Iq w A' n' c' D) : Calls Try.prog 29 #[.slice A n c, .slice A' n' c'] w fun e w' => e = .returned (.bool true) ∧ Ext w w' := by
  obtain ⟨e1, l1⟩ := h.sl
  obtain ⟨e2, l2⟩ := h'.sl
  obtain rfl : n' = n := by rw [e1, e2]
  exact l.sameInts_sm A A' n' c c' _ _ D w l1 l2 (by rw [e2]; exact h.ok)
end
theorem lq_fr {w : World} {lo hi : Nat} {v : Value} {D : List (List Int)} (h : kII.fr w lo hi v D) (ok : kII.ok D) : ∃ A n c, v = .slice A n c ∧ Lq w A n c D := by
  have r := kII.fr_rd h
  have r0 := r
  obtain ⟨vs, rfl, A, c, rfl, -⟩ := r
  exact ⟨A, D.length, c, rfl, r0, ok⟩
theorem iq_fr {w : World} {lo hi : Nat} {v : Value} {D : List Int} (h : kI.fr w lo hi v D) (ok : kI.ok D) : ∃ A n c, v = .slice A n c ∧ Iq w A n c D := by
  have r := kI.fr_rd h
  have r0 := r
  obtain ⟨A, c, rfl, -⟩ := r
  exact ⟨A, D.length, c, rfl, r0, ok⟩
theorem tq_fr {w : World} {lo hi : Nat} {v : Value} {D : List ItD} (h : kIt.fr w lo hi v D) (ok : kIt.ok D) : ∃ A n c, v = .slice A n c ∧ Tq w A n c D := by
  have r := kIt.fr_rd h
  have r0 := r
  obtain ⟨A, c, rfl, -⟩ := kIt_open r
  exact ⟨A, D.length, c, rfl, r0, ok⟩
section
variable {w : World} {v v' : Value} {d d' : ShD} {J : Bool}
theorem Dq.iCalled (h : Dq w v d) {D : List ItD} (hD : (calledF d).1 = D) (hJ : (calledF d).2 = J) : Calls Try.prog 20 #[v] w fun e w' => ∃ A n c, e = .returned (.tuple #[.slice A n c, .bool J]) ∧ Tq w' A n c D ∧ Ext w w' := by
  subst hJ hD
  refine (i.CalledItems_law w v d h.rd h.ok).mono ?_
  rintro e w' ⟨v0, rfl, hf, hok, hx⟩
  obtain ⟨A, n, c, rfl, hd⟩ := tq_fr hf hok
  exact ⟨A, n, c, rfl, hd, hx⟩
theorem Dq.iOpens (h : Dq w v d) {D : List (List Int)} (hD : (openCallsF d).1 = D) (hJ : (openCallsF d).2 = J) : Calls Try.prog 18 #[v] w fun e w' => ∃ A n c, e = .returned (.tuple #[.slice A n c, .bool J]) ∧ Lq w' A n c D ∧ Ext w w' := by
  subst hJ hD
  refine (i.OpenCalls_law w v d h.rd h.ok).mono ?_
  rintro e w' ⟨v0, rfl, hf, hok, hx⟩
  obtain ⟨A, n, c, rfl, hd⟩ := lq_fr hf hok
  exact ⟨A, n, c, rfl, hd, hx⟩
theorem Dq.iFinal (h : Dq w v d) {I : Bool} (hI : (finalF d).1 = I) (hJ : (finalF d).2 = J) : Calls Try.prog 23 #[v] w fun e w' => e = .returned (.tuple #[.bool I, .bool J]) ∧ Ext w w' := by
  subst hI hJ
  exact i.IsFinal_law w v d h.rd h.ok
theorem Dq.iDiss (h : Dq w v d) {D : List Int} (hD : (dissF d).1 = D) (hJ : (dissF d).2 = J) : Calls Try.prog 25 #[v] w fun e w' => ∃ A n c, e = .returned (.tuple #[.slice A n c, .bool J]) ∧ Iq w' A n c D ∧ Ext w w' := by
  subst hJ hD
  refine (i.Dissents_law w v d h.rd h.ok).mono ?_
  rintro e w' ⟨v0, rfl, hf, hok, hx⟩
  obtain ⟨A, n, c, rfl, hd⟩ := iq_fr hf hok
  exact ⟨A, n, c, rfl, hd, hx⟩
theorem Dq.iCallO (h : Dq w v d) {y1 y2 : Int} (h1 : InR y1) (h2 : InR y2) {I : Int} (hI : (callOfF d y1 y2).1 = I) (hJ : (callOfF d y1 y2).2 = J) : Calls Try.prog 10 #[v, .int .i64 y1, .int .i64 y2] w fun e w' => e = .returned (.tuple #[.int .i64 I, .bool J]) ∧ Ext w w' := by
  subst hI hJ
  exact i.CallOf_law w v d y1 y2 h.rd h.ok h1 h2
theorem Dq.iChg (h : Dq w v d) (h' : Dq w v' d') {D : List (List Int)} (hD : (chgF d d').1 = D) (hJ : (chgF d d').2 = J) : Calls Try.prog 34 #[v, v'] w fun e w' => ∃ A n c, e = .returned (.tuple #[.slice A n c, .bool J]) ∧ Lq w' A n c D ∧ Ext w w' := by
  subst hJ hD
  refine (i.ChangedCalls_law w v v' d d' h.rd h.ok h'.rd h'.ok).mono ?_
  rintro e w' ⟨v0, rfl, hf, hok, hx⟩
  obtain ⟨A, n, c, rfl, hd⟩ := lq_fr hf hok
  exact ⟨A, n, c, rfl, hd, hx⟩

theorem Dq.sCalled (h : Dq w v d) {D : List ItD} (hD : (calledF d).1 = D) (hJ : (calledF d).2 = J) : Calls Try.prog 21 #[v] w fun e w' => ∃ A n c, e = .returned (.tuple #[.slice A n c, .bool J]) ∧ Tq w' A n c D ∧ Ext w w' := by
  subst hJ hD
  refine (s.CalledItems_law w v d h.rd h.ok).mono ?_
  rintro e w' ⟨v0, rfl, hf, hok, hx⟩
  obtain ⟨A, n, c, rfl, hd⟩ := tq_fr hf hok
  exact ⟨A, n, c, rfl, hd, hx⟩
theorem Dq.sOpens (h : Dq w v d) {D : List (List Int)} (hD : (openCallsF d).1 = D) (hJ : (openCallsF d).2 = J) : Calls Try.prog 22 #[v] w fun e w' => ∃ A n c, e = .returned (.tuple #[.slice A n c, .bool J]) ∧ Lq w' A n c D ∧ Ext w w' := by
  subst hJ hD
  refine (s.OpenCalls_law w v d h.rd h.ok).mono ?_
  rintro e w' ⟨v0, rfl, hf, hok, hx⟩
  obtain ⟨A, n, c, rfl, hd⟩ := lq_fr hf hok
  exact ⟨A, n, c, rfl, hd, hx⟩
theorem Dq.sFinal (h : Dq w v d) {I : Bool} (hI : (finalF d).1 = I) (hJ : (finalF d).2 = J) : Calls Try.prog 24 #[v] w fun e w' => e = .returned (.tuple #[.bool I, .bool J]) ∧ Ext w w' := by
  subst hI hJ
  exact s.IsFinal_law w v d h.rd h.ok
theorem Dq.sDiss (h : Dq w v d) {D : List Int} (hD : (dissF d).1 = D) (hJ : (dissF d).2 = J) : Calls Try.prog 26 #[v] w fun e w' => ∃ A n c, e = .returned (.tuple #[.slice A n c, .bool J]) ∧ Iq w' A n c D ∧ Ext w w' := by
  subst hJ hD
  refine (s.Dissents_law w v d h.rd h.ok).mono ?_
  rintro e w' ⟨v0, rfl, hf, hok, hx⟩
  obtain ⟨A, n, c, rfl, hd⟩ := iq_fr hf hok
  exact ⟨A, n, c, rfl, hd, hx⟩
theorem Dq.sCallO (h : Dq w v d) {y1 y2 : Int} (h1 : InR y1) (h2 : InR y2) {I : Int} (hI : (callOfF d y1 y2).1 = I) (hJ : (callOfF d y1 y2).2 = J) : Calls Try.prog 32 #[v, .int .i64 y1, .int .i64 y2] w fun e w' => e = .returned (.tuple #[.int .i64 I, .bool J]) ∧ Ext w w' := by
  subst hI hJ
  exact s.CallOf_law w v d y1 y2 h.rd h.ok h1 h2
theorem Dq.sChg (h : Dq w v d) (h' : Dq w v' d') {D : List (List Int)} (hD : (chgF d d').1 = D) (hJ : (chgF d d').2 = J) : Calls Try.prog 35 #[v, v'] w fun e w' => ∃ A n c, e = .returned (.tuple #[.slice A n c, .bool J]) ∧ Lq w' A n c D ∧ Ext w w' := by
  subst hJ hD
  refine (s.ChangedCalls_law w v v' d d' h.rd h.ok h'.rd h'.ok).mono ?_
  rintro e w' ⟨v0, rfl, hf, hok, hx⟩
  obtain ⟨A, n, c, rfl, hd⟩ := lq_fr hf hok
  exact ⟨A, n, c, rfl, hd, hx⟩
end
end Go.Proofs.Ytofmfagdaiphaaa
