/- Elements of a code, and lists of them: weighed, copied, compared, marked. -/
import Derived.Test.YtmckompikbechaaON
namespace Go.Proofs.Ytmckompikbechaa
open Go.RowKit Go.Sort
set_option linter.unusedVariables false

abbrev ElD := List UInt8 × Int × Int × Int
def kdEl : Kd ElD := kdPair kdS (kdPair kdInt (kdPair kdInt kdInt))
def elV (d : ElD) : List Value := [.string (bs d.1), .int .i64 d.2.1, .int .i64 d.2.2.1, .int .i64 d.2.2.2]
theorem kdEl.open_ {w : World} {B : Nat} {vs : List Value} {d : ElD} (h : kdEl.rd w B vs d) : vs = [.string (bs d.1), .int .i64 d.2.1, .int .i64 d.2.2.1, .int .i64 d.2.2.2] ∧ d.1.length ≤ 9223372036854775807 := by
  obtain ⟨v1, v2, rfl, ⟨h1, hl⟩, v3, v4, rfl, h2, v5, v6, rfl, h3, h4⟩ := h
  have h2 : v3 = [.int .i64 d.2.1] := h2
  have h3 : v5 = [.int .i64 d.2.2.1] := h3
  have h4 : v6 = [.int .i64 d.2.2.2] := h4
  subst h1 h2 h3 h4
  exact ⟨rfl, hl⟩
theorem kdEl.mk_ (w : World) (B : Nat) (d : ElD) (hl : d.1.length ≤ 9223372036854775807) : kdEl.rd w B [.string (bs d.1), .int .i64 d.2.1, .int .i64 d.2.2.1, .int .i64 d.2.2.2] d :=
  ⟨[.string (bs d.1)], [.int .i64 d.2.1, .int .i64 d.2.2.1, .int .i64 d.2.2.2], rfl, ⟨rfl, hl⟩, [.int .i64 d.2.1], [.int .i64 d.2.2.1, .int .i64 d.2.2.2], rfl, rfl, [.int .i64 d.2.2.1], [.int .i64 d.2.2.2], rfl, rfl, rfl⟩
theorem kdEl.mkOwn (w : World) (d : ElD) (hl : d.1.length ≤ 9223372036854775807) : kdEl.own w [.string (bs d.1), .int .i64 d.2.1, .int .i64 d.2.2.1, .int .i64 d.2.2.2] d [] :=
  ⟨[.string (bs d.1)], [.int .i64 d.2.1, .int .i64 d.2.2.1, .int .i64 d.2.2.2], [], [], rfl, ⟨⟨rfl, hl⟩, rfl⟩, ⟨[.int .i64 d.2.1], [.int .i64 d.2.2.1, .int .i64 d.2.2.2], [], [], rfl, ⟨rfl, rfl⟩, ⟨[.int .i64 d.2.2.1], [.int .i64 d.2.2.2], [], [], rfl, ⟨rfl, rfl⟩, ⟨rfl, rfl⟩, rfl, by simp⟩, rfl, by simp⟩, rfl, by simp⟩
theorem kdEl.own_nil {w : World} {vs : List Value} {d : ElD} {f : List Nat} (h : kdEl.own w vs d f) : f = [] := by
  obtain ⟨v1, v2, f1, f2, _, ⟨_, e1⟩, ⟨v3, v4, f3, f4, _, ⟨_, e2⟩, ⟨v5, v6, f5, f6, _, ⟨_, e3⟩, ⟨_, e4⟩, e5, _⟩, e6, _⟩, e7, _⟩ := h
  rw [e7, e6, e5, e1, e2, e3, e4]; rfl
theorem kdEl.val4 (a b c e : Value) : kdEl.val [a, b, c, e] = .agg #[a, b, c, e] := rfl
theorem kdEl.wt_eq (d : ElD) : kdEl.wt d = d.1.length := by
  show d.1.length + (0 + (0 + 0)) = _
  omega
def kdElS : Kd (List ElD) := kdList 109 kdEl
def noEl : ElD := ([], 0, 0, 0)
theorem info_element : (Try.prog.info? 109).map (fun i => (i.zero, i.size, i.bytes)) = some (some (.agg #[.string (bs []), .int .i64 0, .int .i64 0, .int .i64 0]), 4, 40) := by kernel_rfl
theorem kdEl.zero (w : World) : kdEl.own w [.string (bs []), .int .i64 0, .int .i64 0, .int .i64 0] noEl [] := kdEl.mkOwn w noEl (by decide)
theorem LR.element {w : World} {B c : Nat} {A : Option Addr} {xs : List ElD} (h : LR kdEl w B A c xs) (k : Nat) (x : ElD) (hx : xs[k]? = some x) : ∃ b off, A = some ⟨b, off, none⟩ ∧ b < B ∧ w.cell? ⟨b, off + k * 4, none⟩ = some (.string (bs x.1)) ∧ w.cell? ⟨b, off + k * 4 + 1, none⟩ = some (.int .i64 x.2.1) ∧ w.cell? ⟨b, off + k * 4 + 2, none⟩ = some (.int .i64 x.2.2.1) ∧ w.cell? ⟨b, off + k * 4 + 3, none⟩ = some (.int .i64 x.2.2.2) ∧ x.1.length ≤ 9223372036854775807 := by
  obtain ⟨b, off, cs, rfl, hb, hr, hc⟩ := h.2.2 k x hx
  obtain ⟨rfl, hl⟩ := kdEl.open_ hr
  exact ⟨b, off, rfl, hb, hc 0 _ rfl, hc 1 _ rfl, hc 2 _ rfl, hc 3 _ rfl, hl⟩

set_option maxRecDepth 100000 in
set_option maxHeartbeats 1000000 in
theorem kdEl.to_ : ToD Try.prog kdEl 134 := by
  rintro w vs ⟨s, x, y, z⟩ h hwt
  obtain ⟨rfl, hl⟩ := kdEl.open_ h
  clear h
  have HL := hide hl
  show Calls _ _ #[.agg #[.string (bs s), .int .i64 x, .int .i64 y, .int .i64 z]] _ _
  have MK := hide (fun w' => kdEl.mkOwn w' (s, x, y, z) hl)
  clear hl hwt
  generalize bs s = sb at *
  go_enter Try.func134, Try.ntmps134
  go_wp2
  refine bodyPost_ret (v := .agg #[.string sb, .int .i64 x, .int .i64 y, .int .i64 z]) (by simp [results, Try.results134, go_sem, World.cell?_alloc_at]) rfl ?_
  first | refine ⟨[.string sb, .int .i64 x, .int .i64 y, .int .i64 z], rfl, [], MK.out _, by simp, ?_⟩ | refine ⟨[.string sb, .int .i64 x, .int .i64 y, .int .i64 z], [], rfl, MK.out _, by simp, ?_⟩
  repeat (refine Below.setCell ?_ (by simp <;> omega) _)
  exact ((Ext.alloc w _).trans (Ext.alloc _ _)).trans (Ext.alloc _ _)

set_option maxRecDepth 100000 in
set_option maxHeartbeats 1000000 in
theorem kdEl.eq_ : EqD Try.prog kdEl 137 := by
  rintro w vs vs' ⟨s, x, y, z⟩ h h' hwt
  obtain ⟨rfl, _⟩ := kdEl.open_ h
  obtain ⟨rfl, _⟩ := kdEl.open_ h'
  clear h h'
  show Calls _ _ #[.agg #[.string (bs s), .int .i64 x, .int .i64 y, .int .i64 z], .agg #[.string (bs s), .int .i64 x, .int .i64 y, .int .i64 z]] _ _
  generalize bs s = sb at *
  have e0 : (sb.toList != sb.toList) = false := by simp
  have e1 : (x != x) = false := by simp
  have e2 : (y != y) = false := by simp
  have e3 : (z != z) = false := by simp
  go_enter Try.func137, Try.ntmps137
  go_wp2
  go_ret
  exact ⟨rfl, (Ext.alloc w _).trans (Ext.alloc _ _)⟩

set_option maxRecDepth 100000 in
set_option maxHeartbeats 1000000 in
theorem kdEl.sz : SzD Try.prog kdEl 131 := by
  rintro w vs ⟨s, x, y, z⟩ l h hl0 hl1
  obtain ⟨rfl, hsl⟩ := kdEl.open_ h
  clear h
  rw [kdEl.wt_eq]
  show Calls _ _ #[.agg #[.string (bs s), .int .i64 x, .int .i64 y, .int .i64 z], .int .i64 l] _ _
  have hz1 : (bs s).size = s.length := bs_size s
  have hsl : s.length ≤ 9223372036854775807 := hsl
  show Calls _ _ _ _ (fun e w' => e = .returned (.int .i64 (if ((s.length : Nat) : Int) ≤ l then l - ((s.length : Nat) : Int) else -1)) ∧ _)
  generalize s.length = n at *
  generalize bs s = sb at *
  by_cases hle : (n : Int) ≤ l
  · rw [if_pos hle]
    go_enter Try.func131, Try.ntmps131
    go_wp2
    go_ret
    exact ⟨rfl, Ext.alloc w _⟩
  · rw [if_neg hle]
    go_enter Try.func131, Try.ntmps131
    go_wp2
    go_ret
    exact ⟨rfl, Ext.alloc w _⟩

set_option maxRecDepth 100000 in
set_option maxHeartbeats 2000000 in
theorem kdElS.to_ : ToD Try.prog kdElS 83 := by
  rintro w vs d ⟨A, c, rfl, h⟩ hn
  have hwt : wtL kdEl d ≤ 1048576 := hn
  have hlen := wtL_len kdEl d
  obtain ⟨i0, hi, hz0, hz1, hz2⟩ := info_parts info_element
  have HD := hide h
  clear h hn
  show Calls _ _ #[.slice A d.length c] _ _
  obtain ⟨n, hnd⟩ : ∃ n, Hid (d.length = n) := ⟨_, rfl⟩
  rw [hnd.out] at hlen ⊢
  have hn : n ≤ 1048576 := by omega
  have HW := hide hwt
  clear hwt hlen
  go_enter Try.func83, Try.ntmps83
  go_wp2_with (at_make; refine wpList_make_full _ rfl _ _ _ rfl 0 109 i0 _ 4 Try.underlying57 hi hz0 hz1 _ _ _ _ n rfl rfl rfl rfl ?c1 ?c2 ?c3 ?_)
  case c1 => rw [hz2]; omega
  case c2 => unfold maxLen; omega
  case c3 => exact Nat.zero_le _
  intro w1 hown hgrow
  have hb1 : Ext w w1 := (Below.refl _ _).grown hgrow (Nat.le_refl _) (by simp)
  have HL1 : Hid (LO kdEl 109 w1 (some ⟨w.heap.size, 0, none⟩) n (List.replicate n noEl) [w.heap.size]) := by
    refine LO.made (zc := [.string (bs []), .int .i64 0, .int .i64 0, .int .i64 0]) ?_ kdEl.zero
    have h8 := made_flat #[.string (bs []), .int .i64 0, .int .i64 0, .int .i64 0] n
    rw [← show (#[.string (bs []), .int .i64 0, .int .i64 0, .int .i64 0] : Array Value).toList = [.string (bs []), .int .i64 0, .int .i64 0, .int .i64 0] from rfl, ← h8]
    exact hown
  have HX1 := hide hb1
  clear hown hgrow hb1
  go_wp2
  go_loopw [4] (fun i wr => ∃ (k : Nat) (fp : List Nat), k ≤ n ∧ i = .int .i64 k ∧ LO kdEl 109 wr (some ⟨w.heap.size, 0, none⟩) n (partG noEl d k) fp ∧ (∀ i ∈ fp, w.heap.size ≤ i) ∧ Ext w wr) (fun i _ => n - (intOf i).toNat)
  case atStart => exact ⟨0, [w.heap.size], Nat.zero_le _, rfl, by rw [partG_zero, hnd.out]; exact HL1.out, by simp, HX1.out⟩
  case round =>
    obtain ⟨k, fp, hk, rfl, hlo, hfp, hx⟩ := hrel
    have HLO := hide hlo
    have HFP := hide hfp
    have HX := hide hx
    clear hlo hfp hx
    by_cases hlt : k < n
    · obtain ⟨x, hxk⟩ : ∃ x, Hid (d[k]? = some x) := ⟨_, List.getElem?_eq_getElem (by rw [hnd.out]; exact hlt)⟩
      obtain ⟨b, off, rfl, hb, q0, q1, q2, q3, xl⟩ := (HD.out.ext HX.out (Nat.le_refl _)).element k x hxk.out
      have RX := hide (kdEl.mk_ wr wr.heap.size x xl)
      go_wp2_with fail
      refine (kdEl.to_ wr _ x RX.out (Nat.le_trans (wtL_at kdEl d k x hxk.out) HW.out)).mono ?_
      rintro e w2 ⟨vs', fp', rfl, ho', hfp', hx'⟩
      obtain ⟨rfl, _⟩ := kdEl.open_ (kdEl.own_rd ho')
      have HO' := hide ho'
      have HX2 := hide hx'
      obtain ⟨g, cs0, f, hat⟩ := (HLO.out.ext hx').at_ k noEl (partG_at noEl d k (by rw [hnd.out]; exact hlt))
      obtain rfl : g = w.heap.size := by have := hat.addr; simpa using this.symm
      obtain ⟨rfl, _⟩ := kdEl.open_ (kdEl.own_rd hat.own)
      have d0 := hat.cell 0 _ rfl
      have d1 := hat.cell 1 _ rfl
      have d2 := hat.cell 2 _ rfl
      have d3 := hat.cell 3 _ rfl
      rw [show k * kdEl.size + 0 = k * 4 from rfl] at d0
      rw [show k * kdEl.size + 1 = k * 4 + 1 from rfl] at d1
      rw [show k * kdEl.size + 2 = k * 4 + 2 from rfl] at d2
      rw [show k * kdEl.size + 3 = k * 4 + 3 from rfl] at d3
      have hfd := hat.free
      have HAT := hide hat
      have HFP' := hide hfp'
      clear hat hx' hfp' ho'
      rw [kdEl.val4]
      go_wp2
      go_roundw
      case rel =>
        obtain ⟨fp2, hl2, hs2⟩ := HAT.out.store w2 _ x fp' HO'.out (TchF.refl _ _) (fun i hi => .inr (fun hm => by have h1 := HFP'.out i hi; have h2 := HLO.out.lt i hm; omega))
        rw [partG_set noEl d k (by rw [hnd.out]; exact hlt) x hxk.out] at hl2
        refine ⟨k + 1, fp2, by omega, by go_num, hl2, fun i hi => ?_, Below.setCell (Below.setCell (Below.setCell (Below.setCell (HX.out.trans HX2.out) (Nat.le_refl _) _) (Nat.le_refl _) _) (Nat.le_refl _) _) (Nat.le_refl _) _⟩
        rcases hs2 i hi with h1 | h1
        · exact HFP.out i h1
        · exact Nat.le_trans HX.out.size (HFP'.out i h1)
      case measure => simp [intOf]; omega
    · go_wp2
      go_ret
      refine ⟨[.slice (some ⟨w.heap.size, 0, none⟩) n n], fp, rfl, ⟨_, _, by rw [hnd.out], ?_⟩, HFP.out, HX.out⟩
      have := HLO.out
      rwa [partG_all noEl d k (by rw [hnd.out]; exact hlt)] at this

set_option maxRecDepth 100000 in
set_option maxHeartbeats 2000000 in
theorem kdElS.eq_ : EqD Try.prog kdElS 87 := by
  rintro w vs vs' d ⟨A, c, rfl, h⟩ ⟨A', c', rfl, h'⟩ hn
  have hwt : wtL kdEl d ≤ 1048576 := hn
  have hlen := wtL_len kdEl d
  have HD := hide h
  have HD' := hide h'
  clear h h' hn
  show Calls _ _ #[.slice A d.length c, .slice A' d.length c'] _ _
  obtain ⟨n, hnd⟩ : ∃ n, Hid (d.length = n) := ⟨_, rfl⟩
  rw [hnd.out] at hlen ⊢
  have hn : n ≤ 1048576 := by omega
  have HW := hide hwt
  clear hwt hlen
  have hne : ((n : Int) != (n : Int)) = false := by simp
  go_enter Try.func87, Try.ntmps87
  go_wp2
  go_loopw [5] (fun i wr => ∃ (k : Nat), k ≤ n ∧ i = .int .i64 k ∧ Ext w wr) (fun i _ => n - (intOf i).toNat)
  case atStart => exact ⟨0, Nat.zero_le _, rfl, Ext.refl _⟩
  case round =>
    obtain ⟨k, hk, rfl, hx⟩ := hrel
    have HX := hide hx
    clear hx
    by_cases hlt : k < n
    · obtain ⟨x, hxk⟩ : ∃ x, Hid (d[k]? = some x) := ⟨_, List.getElem?_eq_getElem (by rw [hnd.out]; exact hlt)⟩
      obtain ⟨b, off, rfl, hb, q0, q1, q2, q6, xl⟩ := (HD.out.ext HX.out (Nat.le_refl _)).element k x hxk.out
      obtain ⟨b', off', rfl, hb', q3, q4, q5, q7, _⟩ := (HD'.out.ext HX.out (Nat.le_refl _)).element k x hxk.out
      have hrd := kdEl.mk_ wr wr.heap.size x xl
      have hrd' := kdEl.mk_ wr wr.heap.size x xl
      have u0 := fun dd os => cell_regrown q0 dd os
      have u1 := fun dd os => cell_regrown q1 dd os
      have u2 := fun dd os => cell_regrown q2 dd os
      have u3 := fun dd os => cell_regrown q3 dd os
      have u4 := fun dd os => cell_regrown q4 dd os
      have u5 := fun dd os => cell_regrown q5 dd os
      have u6 := fun dd os => cell_regrown q6 dd os
      have u7 := fun dd os => cell_regrown q7 dd os
      have HC := hide (fun dd os => ext_regrown (kdEl.eq_ (grow (redrawn wr dd) os) _ _ x (kdEl.rd_more (kdEl.rd_ext hrd (ext_re wr dd os) (Nat.le_refl _)) (ext_re wr dd os).size) (kdEl.rd_more (kdEl.rd_ext hrd' (ext_re wr dd os) (Nat.le_refl _)) (ext_re wr dd os).size) (Nat.le_trans (wtL_at kdEl d k x hxk.out) HW.out)))
      have i1 : (k : Int) < n := by omega
      clear hrd hrd'
      go_wp2
      refine wp_region_quiet_below (by kernel_rfl) (by kernel_rfl) ?_
      repeat (quiet_step (exact HC.out _ _))
      refine wpQuiet_nil ?_
      intro _ hw'
      obtain ⟨⟨dq, osq⟩, hw''⟩ := hw'
      subst hw''
      have HX2 := hide (HX.out.trans (ext_re wr dq osq))
      clear u0 u1 u2 u3 u4 u5 u6 u7
      generalize grow (redrawn wr dq) osq = w2 at *
      go_wp2
      go_roundw
      case rel => exact ⟨k + 1, by omega, by go_num, HX2.out⟩
      case measure => simp [intOf]; omega
    · go_wp2
      go_ret
      exact ⟨rfl, HX.out⟩

set_option maxRecDepth 100000 in
set_option maxHeartbeats 2000000 in
theorem kdElS.sz : SzD Try.prog kdElS 79 := by
  rintro w vs d l ⟨A, c, rfl, h⟩ hl0 hl1
  have hlen := wtL_len kdEl d
  have HD := hide h
  have hcap := h.1
  have hcm := h.2.1
  clear h
  show Calls _ _ #[.slice A d.length c, .int .i64 l] _ _
  obtain ⟨n, hnd⟩ : ∃ n, Hid (d.length = n) := ⟨_, rfl⟩
  rw [hnd.out] at hlen hcap ⊢
  obtain ⟨W, hW⟩ : ∃ W, Hid (wtL kdEl d = W) := ⟨_, rfl⟩
  rw [hW.out] at hlen
  rw [show (kdElS.wt d) = W from hW.out]
  by_cases hle0 : (n : Int) ≤ l
  · obtain ⟨R, hR⟩ : ∃ R, Hid ((if (W : Int) ≤ l then l - W else -1) = R) := ⟨_, rfl⟩
    rw [hR.out]
    go_enter Try.func79, Try.ntmps79
    go_wp2
    go_loopw [1, 5] (fun q i wr => ∃ (k : Nat) (m : Int), k ≤ n ∧ i = .int .i64 k ∧ q = .int .i64 m ∧ 0 ≤ m ∧ m + n + wtL kdEl (d.take k) = l + k ∧ Ext w wr) (fun _ i _ => n - (intOf i).toNat)
    case atStart => exact ⟨0, l - n, Nat.zero_le _, rfl, rfl, by omega, by show l - n + n + ((0 : Nat) : Int) = l + ((0 : Nat) : Int); omega, Ext.refl _⟩
    case round =>
      obtain ⟨k, m, hk, rfl, rfl, hm0, hm, hx⟩ := hrel
      have HX := hide hx
      have HM := hide hm
      clear hx hm
      have hm1 : m ≤ 1048576 := by have := HM.out; have h2 : k ≤ wtL kdEl (d.take k) := by { have := wtL_len kdEl (d.take k); simp [hnd.out] at this; omega }; omega
      by_cases hlt : k < n
      · obtain ⟨x, hxk⟩ : ∃ x, Hid (d[k]? = some x) := ⟨_, List.getElem?_eq_getElem (by rw [hnd.out]; exact hlt)⟩
        obtain ⟨b, off, rfl, hb, q0, q1, q2, q3, xl⟩ := (HD.out.ext HX.out (Nat.le_refl _)).element k x hxk.out
        have RX := hide (kdEl.mk_ wr wr.heap.size x xl)
        have hs := hide (wtL_succ kdEl d k x hxk.out)
        have ht := hide (wtL_take_le kdEl d (k + 1))
        go_wp2_with fail
        refine (kdEl.sz wr _ x m RX.out hm0 hm1).mono ?_
        rintro e w2 ⟨rfl, hx2⟩
        have HX2 := hide (HX.out.trans hx2)
        clear hx2
        by_cases hle : (kdEl.wt x : Int) ≤ m
        · rw [if_pos hle]
          generalize hmm : m - (kdEl.wt x : Int) = mm
          have hmm0 : 0 ≤ mm := by omega
          have HMM := hide hmm
          clear hmm
          go_wp2
          go_roundw
          case rel => exact ⟨k + 1, mm, by omega, by go_num, rfl, hmm0, by have := HM.out; have := hs.out; have := HMM.out; omega, HX2.out⟩
          case measure => simp [intOf]; omega
        · rw [if_neg hle]
          go_wp2
          go_ret
          exact ⟨ret_int (by rw [← hR.out, if_neg (by have := HM.out; have := hs.out; have := ht.out; have := hW.out; have := hnd.out; omega)]), HX2.out⟩
      · go_wp2
        go_ret
        have ek : k = n := by omega
        have ht : d.take k = d := List.take_of_length_le (by rw [hnd.out]; omega)
        exact ⟨ret_int (by have h1 := HM.out; rw [ht, hW.out] at h1; rw [← hR.out, if_pos (by omega)]; omega), HX.out⟩
  · rw [if_neg (by omega)]
    go_enter Try.func79, Try.ntmps79
    go_wp2
    go_ret
    exact ⟨rfl, Ext.refl _⟩
end Go.Proofs.Ytmckompikbechaa
