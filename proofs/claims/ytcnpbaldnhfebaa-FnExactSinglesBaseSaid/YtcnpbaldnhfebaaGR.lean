/- GR: RA, RM, RC, RD, RE, RF, RG, RH, RI, RJ in one text. -/
import Derived.Test.YtcnpbaldnhfebaaGO
import Derived.Test.YtcnpbaldnhfebaaGN
import Derived.Test.YtcnpbaldnhfebaaGA
import Derived.BigQuiet
import Derived.IntWalk
import Derived.Deep.RegionHeld3
import Derived.Test.YtcnpbaldnhfebaaGQ
/- Elements of a code, and lists of them: weighed, copied, compared, marked. -/
namespace Go.Proofs.Ytcnpbaldnhfebaa
open Go.RowKit Go.Sort
set_option linter.unusedVariables false

abbrev ElD := List UInt8 × Int × Int × Int
def kdEl : Kd ElD := kdPair kdS (kdPair kdInt (kdPair kdInt kdInt))
def elV (d : ElD) : List Value := [.string (bs d.1), .int .i64 d.2.1, .int .i64 d.2.2.1, .int .i64 d.2.2.2]
theorem kdEl.open_ {w : World} {B : Nat} {vs : List Value} {d : ElD} (h : kdEl.rd w B vs d) : vs = [.string (bs d.1), .int .i64 d.2.1, .int .i64 d.2.2.1, .int .i64 d.2.2.2] ∧ d.1.length ≤ 9223372036854775807 := by
  obtain ⟨v1, v2, rfl, ⟨h1, hl⟩, v3, v4, rfl, h2, v5, v6, rfl, h3, h4⟩ := h
  have h2 : v3 = [.int .i64 d.2.1] := h2
  have h3 : v5 = [.int .i64 d.2.2.1] := h3
  have h4 : v6 = [.int .i64 d.2.2.2] := h4
  subst h1 h2 h3 h4
  exact ⟨rfl, hl⟩
theorem kdEl.mk_ (w : World) (B : Nat) (d : ElD) (hl : d.1.length ≤ 9223372036854775807) : kdEl.rd w B [.string (bs d.1), .int .i64 d.2.1, .int .i64 d.2.2.1, .int .i64 d.2.2.2] d :=
  ⟨[.string (bs d.1)], [.int .i64 d.2.1, .int .i64 d.2.2.1, .int .i64 d.2.2.2], rfl, ⟨rfl, hl⟩, [.int .i64 d.2.1], [.int .i64 d.2.2.1, .int .i64 d.2.2.2], rfl, rfl, [.int .i64 d.2.2.1], [.int .i64 d.2.2.2], rfl, rfl, rfl⟩
theorem kdEl.mkOwn (w : World) (d : ElD) (hl : d.1.length ≤ 9223372036854775807) : kdEl.own w [.string (bs d.1), .int .i64 d.2.1, .int .i64 d.2.2.1, .int .i64 d.2.2.2] d [] :=
  ⟨[.string (bs d.1)], [.int .i64 d.2.1, .int .i64 d.2.2.1, .int .i64 d.2.2.2], [], [], rfl, ⟨⟨rfl, hl⟩, rfl⟩, ⟨[.int .i64 d.2.1], [.int .i64 d.2.2.1, .int .i64 d.2.2.2], [], [], rfl, ⟨rfl, rfl⟩, ⟨[.int .i64 d.2.2.1], [.int .i64 d.2.2.2], [], [], rfl, ⟨rfl, rfl⟩, ⟨rfl, rfl⟩, rfl, by simp⟩, rfl, by simp⟩, rfl, by simp⟩
theorem kdEl.own_nil {w : World} {vs : List Value} {d : ElD} {f : List Nat} (h : kdEl.own w vs d f) : f = [] := by
  obtain ⟨v1, v2, f1, f2, _, ⟨_, e1⟩, ⟨v3, v4, f3, f4, _, ⟨_, e2⟩, ⟨v5, v6, f5, f6, _, ⟨_, e3⟩, ⟨_, e4⟩, e5, _⟩, e6, _⟩, e7, _⟩ := h
  rw [e7, e6, e5, e1, e2, e3, e4]; rfl
theorem kdEl.val4 (a b c e : Value) : kdEl.val [a, b, c, e] = .agg #[a, b, c, e] := rfl
theorem kdEl.wt_eq (d : ElD) : kdEl.wt d = d.1.length := by
  show d.1.length + (0 + (0 + 0)) = _
  omega
def kdElS : Kd (List ElD) := kdList 55 kdEl
def noEl : ElD := ([], 0, 0, 0)
theorem info_element : (Try.prog.info? 55).map (fun i => (i.zero, i.size, i.bytes)) = some (some (.agg #[.string (bs []), .int .i64 0, .int .i64 0, .int .i64 0]), 4, 40) := by kernel_rfl
theorem kdEl.zero (w : World) : kdEl.own w [.string (bs []), .int .i64 0, .int .i64 0, .int .i64 0] noEl [] := kdEl.mkOwn w noEl (by decide)
theorem LR.element {w : World} {B c : Nat} {A : Option Addr} {xs : List ElD} (h : LR kdEl w B A c xs) (k : Nat) (x : ElD) (hx : xs[k]? = some x) : ∃ b off, A = some ⟨b, off, none⟩ ∧ b < B ∧ w.cell? ⟨b, off + k * 4, none⟩ = some (.string (bs x.1)) ∧ w.cell? ⟨b, off + k * 4 + 1, none⟩ = some (.int .i64 x.2.1) ∧ w.cell? ⟨b, off + k * 4 + 2, none⟩ = some (.int .i64 x.2.2.1) ∧ w.cell? ⟨b, off + k * 4 + 3, none⟩ = some (.int .i64 x.2.2.2) ∧ x.1.length ≤ 9223372036854775807 := by
  obtain ⟨b, off, cs, rfl, hb, hr, hc⟩ := h.2.2 k x hx
  obtain ⟨rfl, hl⟩ := kdEl.open_ hr
  exact ⟨b, off, rfl, hb, hc 0 _ rfl, hc 1 _ rfl, hc 2 _ rfl, hc 3 _ rfl, hl⟩

set_option maxRecDepth 100000 in
set_option maxHeartbeats 1000000 in
theorem kdEl.to_ : ToD Try.prog kdEl 47 := by
  rintro w vs ⟨s, x, y, z⟩ h hwt
  obtain ⟨rfl, hl⟩ := kdEl.open_ h
  clear h
  have HL := hide hl
  show Calls _ _ #[.agg #[.string (bs s), .int .i64 x, .int .i64 y, .int .i64 z]] _ _
  have MK := hide (fun w' => kdEl.mkOwn w' (s, x, y, z) hl)
  clear hl hwt
  generalize bs s = sb at *
  go_enter Try.func47, Try.ntmps47
  go_wp2
  refine bodyPost_ret (v := .agg #[.string sb, .int .i64 x, .int .i64 y, .int .i64 z]) (by simp [results, Try.results47, go_sem, World.cell?_alloc_at]) rfl ?_
  first | refine ⟨[.string sb, .int .i64 x, .int .i64 y, .int .i64 z], rfl, [], MK.out _, by simp, ?_⟩ | refine ⟨[.string sb, .int .i64 x, .int .i64 y, .int .i64 z], [], rfl, MK.out _, by simp, ?_⟩
  repeat (refine Below.setCell ?_ (by simp <;> omega) _)
  exact ((Ext.alloc w _).trans (Ext.alloc _ _)).trans (Ext.alloc _ _)

set_option maxRecDepth 100000 in
set_option maxHeartbeats 1000000 in
theorem kdEl.eq_ : EqD Try.prog kdEl 56 := by
  rintro w vs vs' ⟨s, x, y, z⟩ h h' hwt
  obtain ⟨rfl, _⟩ := kdEl.open_ h
  obtain ⟨rfl, _⟩ := kdEl.open_ h'
  clear h h'
  show Calls _ _ #[.agg #[.string (bs s), .int .i64 x, .int .i64 y, .int .i64 z], .agg #[.string (bs s), .int .i64 x, .int .i64 y, .int .i64 z]] _ _
  generalize bs s = sb at *
  have e0 : (sb.toList != sb.toList) = false := by simp
  have e1 : (x != x) = false := by simp
  have e2 : (y != y) = false := by simp
  have e3 : (z != z) = false := by simp
  go_enter Try.func56, Try.ntmps56
  go_wp2
  go_ret
  exact ⟨rfl, (Ext.alloc w _).trans (Ext.alloc _ _)⟩

set_option maxRecDepth 100000 in
set_option maxHeartbeats 1000000 in
theorem kdEl.sz : SzD Try.prog kdEl 43 := by
  rintro w vs ⟨s, x, y, z⟩ l h hl0 hl1
  obtain ⟨rfl, hsl⟩ := kdEl.open_ h
  clear h
  rw [kdEl.wt_eq]
  show Calls _ _ #[.agg #[.string (bs s), .int .i64 x, .int .i64 y, .int .i64 z], .int .i64 l] _ _
  have hz1 : (bs s).size = s.length := bs_size s
  have hsl : s.length ≤ 9223372036854775807 := hsl
  show Calls _ _ _ _ (fun e w' => e = .returned (.int .i64 (if ((s.length : Nat) : Int) ≤ l then l - ((s.length : Nat) : Int) else -1)) ∧ _)
  generalize s.length = n at *
  generalize bs s = sb at *
  by_cases hle : (n : Int) ≤ l
  · rw [if_pos hle]
    go_enter Try.func43, Try.ntmps43
    go_wp2
    go_ret
    exact ⟨rfl, Ext.alloc w _⟩
  · rw [if_neg hle]
    go_enter Try.func43, Try.ntmps43
    go_wp2
    go_ret
    exact ⟨rfl, Ext.alloc w _⟩

set_option maxRecDepth 100000 in
set_option maxHeartbeats 2000000 in
theorem kdElS.to_ : ToD Try.prog kdElS 25 := by
  rintro w vs d ⟨A, c, rfl, h⟩ hn
  have hwt : wtL kdEl d ≤ 1048576 := hn
  have hlen := wtL_len kdEl d
  obtain ⟨i0, hi, hz0, hz1, hz2⟩ := info_parts info_element
  have HD := hide h
  clear h hn
  show Calls _ _ #[.slice A d.length c] _ _
  obtain ⟨n, hnd⟩ : ∃ n, Hid (d.length = n) := ⟨_, rfl⟩
  rw [hnd.out] at hlen ⊢
  have hn : n ≤ 1048576 := by omega
  have HW := hide hwt
  clear hwt hlen
  go_enter Try.func25, Try.ntmps25
  go_wp2_with (at_make; refine wpList_make_full _ rfl _ _ _ rfl 0 55 i0 _ 4 Try.underlying29 hi hz0 hz1 _ _ _ _ n rfl rfl rfl rfl ?c1 ?c2 ?c3 ?_)
  case c1 => rw [hz2]; omega
  case c2 => unfold maxLen; omega
  case c3 => exact Nat.zero_le _
  intro w1 hown hgrow
  have hb1 : Ext w w1 := (Below.refl _ _).grown hgrow (Nat.le_refl _) (by simp)
  have HL1 : Hid (LO kdEl 55 w1 (some ⟨w.heap.size, 0, none⟩) n (List.replicate n noEl) [w.heap.size]) := by
    refine LO.made (zc := [.string (bs []), .int .i64 0, .int .i64 0, .int .i64 0]) ?_ kdEl.zero
    have h8 := made_flat #[.string (bs []), .int .i64 0, .int .i64 0, .int .i64 0] n
    rw [← show (#[.string (bs []), .int .i64 0, .int .i64 0, .int .i64 0] : Array Value).toList = [.string (bs []), .int .i64 0, .int .i64 0, .int .i64 0] from rfl, ← h8]
    exact hown
  have HX1 := hide hb1
  clear hown hgrow hb1
  go_wp2
  go_loopw [4] (fun i wr => ∃ (k : Nat) (fp : List Nat), k ≤ n ∧ i = .int .i64 k ∧ LO kdEl 55 wr (some ⟨w.heap.size, 0, none⟩) n (partG noEl d k) fp ∧ (∀ i ∈ fp, w.heap.size ≤ i) ∧ Ext w wr) (fun i _ => n - (intOf i).toNat)
  case atStart => exact ⟨0, [w.heap.size], Nat.zero_le _, rfl, by rw [partG_zero, hnd.out]; exact HL1.out, by simp, HX1.out⟩
  case round =>
    obtain ⟨k, fp, hk, rfl, hlo, hfp, hx⟩ := hrel
    have HLO := hide hlo
    have HFP := hide hfp
    have HX := hide hx
    clear hlo hfp hx
    by_cases hlt : k < n
    · obtain ⟨x, hxk⟩ : ∃ x, Hid (d[k]? = some x) := ⟨_, List.getElem?_eq_getElem (by rw [hnd.out]; exact hlt)⟩
      obtain ⟨b, off, rfl, hb, q0, q1, q2, q3, xl⟩ := (HD.out.ext HX.out (Nat.le_refl _)).element k x hxk.out
      have RX := hide (kdEl.mk_ wr wr.heap.size x xl)
      go_wp2_with fail
      refine (kdEl.to_ wr _ x RX.out (Nat.le_trans (wtL_at kdEl d k x hxk.out) HW.out)).mono ?_
      rintro e w2 ⟨vs', fp', rfl, ho', hfp', hx'⟩
      obtain ⟨rfl, _⟩ := kdEl.open_ (kdEl.own_rd ho')
      have HO' := hide ho'
      have HX2 := hide hx'
      obtain ⟨g, cs0, f, hat⟩ := (HLO.out.ext hx').at_ k noEl (partG_at noEl d k (by rw [hnd.out]; exact hlt))
      obtain rfl : g = w.heap.size := by have := hat.addr; simpa using this.symm
      obtain ⟨rfl, _⟩ := kdEl.open_ (kdEl.own_rd hat.own)
      have d0 := hat.cell 0 _ rfl
      have d1 := hat.cell 1 _ rfl
      have d2 := hat.cell 2 _ rfl
      have d3 := hat.cell 3 _ rfl
      rw [show k * kdEl.size + 0 = k * 4 from rfl] at d0
      rw [show k * kdEl.size + 1 = k * 4 + 1 from rfl] at d1
      rw [show k * kdEl.size + 2 = k * 4 + 2 from rfl] at d2
      rw [show k * kdEl.size + 3 = k * 4 + 3 from rfl] at d3
      have hfd := hat.free
      have HAT := hide hat
      have HFP' := hide hfp'
      clear hat hx' hfp' ho'
      rw [kdEl.val4]
      go_wp2
      go_roundw
      case rel =>
        obtain ⟨fp2, hl2, hs2⟩ := HAT.out.store w2 _ x fp' HO'.out (TchF.refl _ _) (fun i hi => .inr (fun hm => by have h1 := HFP'.out i hi; have h2 := HLO.out.lt i hm; omega))
        rw [partG_set noEl d k (by rw [hnd.out]; exact hlt) x hxk.out] at hl2
        refine ⟨k + 1, fp2, by omega, by go_num, hl2, fun i hi => ?_, Below.setCell (Below.setCell (Below.setCell (Below.setCell (HX.out.trans HX2.out) (Nat.le_refl _) _) (Nat.le_refl _) _) (Nat.le_refl _) _) (Nat.le_refl _) _⟩
        rcases hs2 i hi with h1 | h1
        · exact HFP.out i h1
        · exact Nat.le_trans HX.out.size (HFP'.out i h1)
      case measure => simp [intOf]; omega
    · go_wp2
      go_ret
      refine ⟨[.slice (some ⟨w.heap.size, 0, none⟩) n n], fp, rfl, ⟨_, _, by rw [hnd.out], ?_⟩, HFP.out, HX.out⟩
      have := HLO.out
      rwa [partG_all noEl d k (by rw [hnd.out]; exact hlt)] at this

set_option maxRecDepth 100000 in
set_option maxHeartbeats 2000000 in
theorem kdElS.eq_ : EqD Try.prog kdElS 30 := by
  rintro w vs vs' d ⟨A, c, rfl, h⟩ ⟨A', c', rfl, h'⟩ hn
  have hwt : wtL kdEl d ≤ 1048576 := hn
  have hlen := wtL_len kdEl d
  have HD := hide h
  have HD' := hide h'
  clear h h' hn
  show Calls _ _ #[.slice A d.length c, .slice A' d.length c'] _ _
  obtain ⟨n, hnd⟩ : ∃ n, Hid (d.length = n) := ⟨_, rfl⟩
  rw [hnd.out] at hlen ⊢
  have hn : n ≤ 1048576 := by omega
  have HW := hide hwt
  clear hwt hlen
  have hne : ((n : Int) != (n : Int)) = false := by simp
  go_enter Try.func30, Try.ntmps30
  go_wp2
  go_loopw [5] (fun i wr => ∃ (k : Nat), k ≤ n ∧ i = .int .i64 k ∧ Ext w wr) (fun i _ => n - (intOf i).toNat)
  case atStart => exact ⟨0, Nat.zero_le _, rfl, Ext.refl _⟩
  case round =>
    obtain ⟨k, hk, rfl, hx⟩ := hrel
    have HX := hide hx
    clear hx
    by_cases hlt : k < n
    · obtain ⟨x, hxk⟩ : ∃ x, Hid (d[k]? = some x) := ⟨_, List.getElem?_eq_getElem (by rw [hnd.out]; exact hlt)⟩
      obtain ⟨b, off, rfl, hb, q0, q1, q2, q6, xl⟩ := (HD.out.ext HX.out (Nat.le_refl _)).element k x hxk.out
      obtain ⟨b', off', rfl, hb', q3, q4, q5, q7, _⟩ := (HD'.out.ext HX.out (Nat.le_refl _)).element k x hxk.out
      have hrd := kdEl.mk_ wr wr.heap.size x xl
      have hrd' := kdEl.mk_ wr wr.heap.size x xl
      have u0 := fun dd os => cell_regrown q0 dd os
      have u1 := fun dd os => cell_regrown q1 dd os
      have u2 := fun dd os => cell_regrown q2 dd os
      have u3 := fun dd os => cell_regrown q3 dd os
      have u4 := fun dd os => cell_regrown q4 dd os
      have u5 := fun dd os => cell_regrown q5 dd os
      have u6 := fun dd os => cell_regrown q6 dd os
      have u7 := fun dd os => cell_regrown q7 dd os
      have HC := hide (fun dd os => ext_regrown (kdEl.eq_ (grow (redrawn wr dd) os) _ _ x (kdEl.rd_more (kdEl.rd_ext hrd (ext_re wr dd os) (Nat.le_refl _)) (ext_re wr dd os).size) (kdEl.rd_more (kdEl.rd_ext hrd' (ext_re wr dd os) (Nat.le_refl _)) (ext_re wr dd os).size) (Nat.le_trans (wtL_at kdEl d k x hxk.out) HW.out)))
      have i1 : (k : Int) < n := by omega
      clear hrd hrd'
      go_wp2
      refine wp_region_quiet_below (by kernel_rfl) (by kernel_rfl) ?_
      repeat (quiet_step (exact HC.out _ _))
      refine wpQuiet_nil ?_
      intro _ hw'
      obtain ⟨⟨dq, osq⟩, hw''⟩ := hw'
      subst hw''
      have HX2 := hide (HX.out.trans (ext_re wr dq osq))
      clear u0 u1 u2 u3 u4 u5 u6 u7
      generalize grow (redrawn wr dq) osq = w2 at *
      go_wp2
      go_roundw
      case rel => exact ⟨k + 1, by omega, by go_num, HX2.out⟩
      case measure => simp [intOf]; omega
    · go_wp2
      go_ret
      exact ⟨rfl, HX.out⟩

set_option maxRecDepth 100000 in
set_option maxHeartbeats 2000000 in
theorem kdElS.sz : SzD Try.prog kdElS 22 := by
  rintro w vs d l ⟨A, c, rfl, h⟩ hl0 hl1
  have hlen := wtL_len kdEl d
  have HD := hide h
  have hcap := h.1
  have hcm := h.2.1
  clear h
  show Calls _ _ #[.slice A d.length c, .int .i64 l] _ _
  obtain ⟨n, hnd⟩ : ∃ n, Hid (d.length = n) := ⟨_, rfl⟩
  rw [hnd.out] at hlen hcap ⊢
  obtain ⟨W, hW⟩ : ∃ W, Hid (wtL kdEl d = W) := ⟨_, rfl⟩
  rw [hW.out] at hlen
  rw [show (kdElS.wt d) = W from hW.out]
  by_cases hle0 : (n : Int) ≤ l
  · obtain ⟨R, hR⟩ : ∃ R, Hid ((if (W : Int) ≤ l then l - W else -1) = R) := ⟨_, rfl⟩
    rw [hR.out]
    go_enter Try.func22, Try.ntmps22
    go_wp2
    go_loopw [1, 5] (fun q i wr => ∃ (k : Nat) (m : Int), k ≤ n ∧ i = .int .i64 k ∧ q = .int .i64 m ∧ 0 ≤ m ∧ m + n + wtL kdEl (d.take k) = l + k ∧ Ext w wr) (fun _ i _ => n - (intOf i).toNat)
    case atStart => exact ⟨0, l - n, Nat.zero_le _, rfl, rfl, by omega, by show l - n + n + ((0 : Nat) : Int) = l + ((0 : Nat) : Int); omega, Ext.refl _⟩
    case round =>
      obtain ⟨k, m, hk, rfl, rfl, hm0, hm, hx⟩ := hrel
      have HX := hide hx
      have HM := hide hm
      clear hx hm
      have hm1 : m ≤ 1048576 := by have := HM.out; have h2 : k ≤ wtL kdEl (d.take k) := by { have := wtL_len kdEl (d.take k); simp [hnd.out] at this; omega }; omega
      by_cases hlt : k < n
      · obtain ⟨x, hxk⟩ : ∃ x, Hid (d[k]? = some x) := ⟨_, List.getElem?_eq_getElem (by rw [hnd.out]; exact hlt)⟩
        obtain ⟨b, off, rfl, hb, q0, q1, q2, q3, xl⟩ := (HD.out.ext HX.out (Nat.le_refl _)).element k x hxk.out
        have RX := hide (kdEl.mk_ wr wr.heap.size x xl)
        have hs := hide (wtL_succ kdEl d k x hxk.out)
        have ht := hide (wtL_take_le kdEl d (k + 1))
        go_wp2_with fail
        refine (kdEl.sz wr _ x m RX.out hm0 hm1).mono ?_
        rintro e w2 ⟨rfl, hx2⟩
        have HX2 := hide (HX.out.trans hx2)
        clear hx2
        by_cases hle : (kdEl.wt x : Int) ≤ m
        · rw [if_pos hle]
          generalize hmm : m - (kdEl.wt x : Int) = mm
          have hmm0 : 0 ≤ mm := by omega
          have HMM := hide hmm
          clear hmm
          go_wp2
          go_roundw
          case rel => exact ⟨k + 1, mm, by omega, by go_num, rfl, hmm0, by have := HM.out; have := hs.out; have := HMM.out; omega, HX2.out⟩
          case measure => simp [intOf]; omega
        · rw [if_neg hle]
          go_wp2
          go_ret
          exact ⟨ret_int (by rw [← hR.out, if_neg (by have := HM.out; have := hs.out; have := ht.out; have := hW.out; have := hnd.out; omega)]), HX2.out⟩
      · go_wp2
        go_ret
        have ek : k = n := by omega
        have ht : d.take k = d := List.take_of_length_le (by rw [hnd.out]; omega)
        exact ⟨ret_int (by have h1 := HM.out; rw [ht, hW.out] at h1; rw [← hR.out, if_pos (by omega)]; omega), HX.out⟩
  · rw [if_neg (by omega)]
    go_enter Try.func22, Try.ntmps22
    go_wp2
    go_ret
    exact ⟨rfl, Ext.refl _⟩
end Go.Proofs.Ytcnpbaldnhfebaa

/- Elements marked. -/
namespace Go.Proofs.Ytcnpbaldnhfebaa
open Go.RowKit Go.Sort
set_option linter.unusedVariables false

set_option maxRecDepth 100000 in
set_option maxHeartbeats 2000000 in
theorem kdElS.mark : MarkD Try.prog kdElS 31 := by
  rintro w vs d fp k ⟨A, c, rfl, h⟩ hn hk0 hk1
  have hwt : wtL kdEl d ≤ 1048576 := hn
  have hlen := wtL_len kdEl d
  have HD := hide h
  have hcap := h.cap.1
  have hcm := h.cap.2
  clear h hn
  show Calls _ _ #[.slice A d.length c, .int .i64 k] _ _
  have hcn : ((kdElS.cnt d : Nat) : Int) = (cntL kdEl d : Nat) := rfl
  rw [hcn] at hk1 ⊢
  obtain ⟨n, hnd⟩ : ∃ n, Hid (d.length = n) := ⟨_, rfl⟩
  rw [hnd.out] at hlen hcap ⊢
  have hn : n ≤ 1048576 := by omega
  have HW := hide hwt
  clear hwt hlen hcn
  go_enter Try.func31, Try.ntmps31
  go_wp2
  go_loopw [1, 5] (fun q i wr => ∃ (j : Nat), j ≤ n ∧ i = .int .i64 j ∧ q = .int .i64 (k + (cntL kdEl (d.take j) : Nat)) ∧ LO kdEl 55 wr A c (mkd kdEl k d j) fp ∧ TchF fp w wr) (fun _ i _ => n - (intOf i).toNat)
  case atStart => exact ⟨0, Nat.zero_le _, rfl, by show _ = Value.int .i64 (k + ((0 : Nat) : Int)); simp, HD.out, TchF.refl _ _⟩
  case round =>
    obtain ⟨j, hj, rfl, rfl, hlo, ht⟩ := hrel
    have HLO := hide hlo
    have HT := hide ht
    clear hlo ht
    by_cases hlt : j < n
    · obtain ⟨x, hxj⟩ : ∃ x, Hid (d[j]? = some x) := ⟨_, List.getElem?_eq_getElem (by rw [hnd.out]; exact hlt)⟩
      have hca := cntL_at kdEl d j x hxj.out
      have hcs := hide (cntL_succ kdEl d j x hxj.out)
      have hms := hide (mkd_set kdEl k d j x hxj.out)
      obtain ⟨C, hC⟩ : ∃ C : Nat, Hid (cntL kdEl (d.take j) = C) := ⟨_, rfl⟩
      rw [hC.out] at hca hcs hms ⊢
      obtain ⟨C9, hC9⟩ : ∃ C : Nat, Hid (cntL kdEl d = C) := ⟨_, rfl⟩
      rw [hC9.out] at hca hk1
      have hcx : kdEl.cnt x = 4 := rfl
      rw [hcx] at hca hcs
      clear hcx
      obtain ⟨r0, r1, r2, r3⟩ := x
      obtain ⟨g, cs, f, rfl, own, sub, mem, glt, cell, free, put⟩ := HLO.out.put j (r0, r1, r2, r3) (mkd_at kdEl k d j _ hxj.out)
      obtain ⟨rfl, hxl⟩ := kdEl.open_ (kdEl.own_rd own)
      obtain rfl := kdEl.own_nil own
      have q0 : wr.cell? ⟨g, j * 4, none⟩ = some (.string (bs r0)) := cell 0 _ rfl
      have q1 : wr.cell? ⟨g, j * 4 + 1, none⟩ = some (.int .i64 r1) := cell 1 _ rfl
      have q2 : wr.cell? ⟨g, j * 4 + 2, none⟩ = some (.int .i64 r2) := cell 2 _ rfl
      have q3 : wr.cell? ⟨g, j * 4 + 3, none⟩ = some (.int .i64 r3) := cell 3 _ rfl
      have qf := free
      have hxl : r0.length ≤ 9223372036854775807 := hxl
      obtain ⟨Kn, hKn⟩ : ∃ Kn : Nat, k + (C : Int) = Kn := ⟨(k + C).toNat, by omega⟩
      rw [hKn] at hms ⊢
      have hKb : Kn ≤ 8589934592 := by omega
      have MT := hide (l.markText_any Kn wr hKb)
      have ML := markT_len (Kn : Int) (by omega)
      have hmr : kdEl.mrk (Kn : Int) (r0, r1, r2, r3) = (markT (Kn : Int), (Kn : Int) + 1, (Kn : Int) + 1 + 1, (Kn : Int) + 1 + 1 + 1) := rfl
      rw [hmr] at hms
      clear hmr
      generalize hmt : markT (Kn : Int) = mt at *
      have HPUT : Hid (∀ w2, Ext wr w2 → LO kdEl 55 ((((w2.setCell ⟨g, j * 4, none⟩ (.string (bs mt))).setCell ⟨g, j * 4 + 1, none⟩ (.int .i64 ((Kn : Int) + 1))).setCell ⟨g, j * 4 + 2, none⟩ (.int .i64 ((Kn : Int) + 1 + 1))).setCell ⟨g, j * 4 + 3, none⟩ (.int .i64 ((Kn : Int) + 1 + 1 + 1))) (some ⟨g, 0, none⟩) c (mkd kdEl k d (j + 1)) fp) := by
        intro w2 x2
        have L1 := put w2 0 (.string (bs mt)) (mt, r1, r2, r3) (by decide) (kdEl.mkOwn _ (mt, r1, r2, r3) (by show mt.length ≤ _; omega)) (TchF.of_ext x2)
        obtain ⟨g', cs', f', e1, own2, _, _, _, _, _, put2⟩ := L1.put j (mt, r1, r2, r3) (by rw [List.getElem?_set, if_pos rfl, if_pos (by rw [mkd_len, hnd.out]; exact hlt)])
        simp only [Option.some.injEq, Addr.mk.injEq, and_true] at e1
        subst e1
        obtain ⟨rfl, _⟩ := kdEl.open_ (kdEl.own_rd own2)
        obtain rfl := kdEl.own_nil own2
        have L2 := put2 _ 1 (.int .i64 ((Kn : Int) + 1)) (mt, (Kn : Int) + 1, r2, r3) (by decide) (kdEl.mkOwn _ (mt, (Kn : Int) + 1, r2, r3) (by show mt.length ≤ _; omega)) (TchF.refl _ _)
        rw [List.set_set] at L2
        obtain ⟨g', cs', f', e1, own3, _, _, _, _, _, put3⟩ := L2.put j (mt, (Kn : Int) + 1, r2, r3) (by rw [List.getElem?_set, if_pos rfl, if_pos (by rw [mkd_len, hnd.out]; exact hlt)])
        simp only [Option.some.injEq, Addr.mk.injEq, and_true] at e1
        subst e1
        obtain ⟨rfl, _⟩ := kdEl.open_ (kdEl.own_rd own3)
        obtain rfl := kdEl.own_nil own3
        have L3 := put3 _ 2 (.int .i64 ((Kn : Int) + 1 + 1)) (mt, (Kn : Int) + 1, (Kn : Int) + 1 + 1, r3) (by decide) (kdEl.mkOwn _ (mt, (Kn : Int) + 1, (Kn : Int) + 1 + 1, r3) (by show mt.length ≤ _; omega)) (TchF.refl _ _)
        rw [List.set_set] at L3
        obtain ⟨g', cs', f', e1, own4, _, _, _, _, _, put4⟩ := L3.put j (mt, (Kn : Int) + 1, (Kn : Int) + 1 + 1, r3) (by rw [List.getElem?_set, if_pos rfl, if_pos (by rw [mkd_len, hnd.out]; exact hlt)])
        simp only [Option.some.injEq, Addr.mk.injEq, and_true] at e1
        subst e1
        obtain ⟨rfl, _⟩ := kdEl.open_ (kdEl.own_rd own4)
        obtain rfl := kdEl.own_nil own4
        have L4 := put4 _ 3 (.int .i64 ((Kn : Int) + 1 + 1 + 1)) (mt, (Kn : Int) + 1, (Kn : Int) + 1 + 1, (Kn : Int) + 1 + 1 + 1) (by decide) (kdEl.mkOwn _ (mt, (Kn : Int) + 1, (Kn : Int) + 1 + 1, (Kn : Int) + 1 + 1 + 1) (by show mt.length ≤ _; omega)) (TchF.refl _ _)
        rw [List.set_set] at L4
        rw [hms.out] at L4
        exact L4
      clear put own cell free sub
      go_wp2_with fail
      refine MT.out.mono ?_
      rintro e w2 ⟨rfl, x2⟩
      have p0 : w2.cell? ⟨g, j * 4, none⟩ = some (.string (bs r0)) := by rw [x2.cell glt]; exact q0
      have p1 : w2.cell? ⟨g, j * 4 + 1, none⟩ = some (.int .i64 r1) := by rw [x2.cell glt]; exact q1
      have p2 : w2.cell? ⟨g, j * 4 + 2, none⟩ = some (.int .i64 r2) := by rw [x2.cell glt]; exact q2
      have p3 : w2.cell? ⟨g, j * 4 + 3, none⟩ = some (.int .i64 r3) := by rw [x2.cell glt]; exact q3
      have pf : ∀ i, w2.frozen? ⟨g, i, none⟩ = false := fun i => by rw [World.frozen?_of_block (w := wr) (x2.block g glt)]; exact qf i
      have X2 := hide x2
      clear x2 q0 q1 q2 q3 qf MT
      go_wp2
      go_roundw
      case rel =>
        exact ⟨j + 1, by omega, by go_num, by rw [hcs.out]; exact congrArg (Value.int .i64) (by omega), HPUT.out w2 X2.out, ((((HT.out.trans (TchF.of_ext X2.out)).trans (TchF.set1 _ _ _ mem)).trans (TchF.set1 _ _ _ mem)).trans (TchF.set1 _ _ _ mem)).trans (TchF.set1 _ _ _ mem)⟩
      case measure => simp [intOf]; omega
    · go_wp2
      go_ret
      have ht : d.take j = d := List.take_of_length_le (by rw [hnd.out]; omega)
      refine ⟨ret_int (by rw [ht]), ⟨A, c, ?_, ?_⟩, HT.out⟩
      · show [Value.slice A n c] = [Value.slice A (mrkL kdEl k d).length c]
        rw [mrkL_len, hnd.out]
      · have := HLO.out
        rwa [mkd_all kdEl k d j (by rw [hnd.out]; exact hlt)] at this
end Go.Proofs.Ytcnpbaldnhfebaa

/- Codes: as a kind; weighed, copied, compared, marked. -/
namespace Go.Proofs.Ytcnpbaldnhfebaa
open Go.RowKit Go.Sort
set_option linter.unusedVariables false

abbrev CoD := List ElD × List Int × Int × Int × Int × Int
def kdCo : Kd CoD := kdPair kdElS (kdPair kdL (kdPair kdNum (kdPair kdNum (kdPair kdNum kdNum))))
theorem kdCo.open_ {w : World} {B : Nat} {vs : List Value} {d : CoD} (h : kdCo.rd w B vs d) : ∃ A c A' c', vs = [.slice A d.1.length c, .slice A' d.2.1.length c', .int .i64 d.2.2.1, .int .i64 d.2.2.2.1, .int .i64 d.2.2.2.2.1, .int .i64 d.2.2.2.2.2] ∧ LR kdEl w B A c d.1 ∧ LR kdInt w B A' c' d.2.1 := by
  obtain ⟨v1, v2, rfl, ⟨A, c, rfl, h1⟩, v3, v4, rfl, ⟨A', c', rfl, h2⟩, v5, v6, rfl, h3, v7, v8, rfl, h4, v9, v10, rfl, h5, h6⟩ := h
  have h3 : v5 = [.int .i64 d.2.2.1] := h3
  have h4 : v7 = [.int .i64 d.2.2.2.1] := h4
  have h5 : v9 = [.int .i64 d.2.2.2.2.1] := h5
  have h6 : v10 = [.int .i64 d.2.2.2.2.2] := h6
  subst h3 h4 h5 h6
  exact ⟨A, c, A', c', rfl, h1, h2⟩
theorem kdCo.mk_ {w : World} {B : Nat} {d : CoD} {A A' : Option Addr} {c c' : Nat} (h1 : LR kdEl w B A c d.1) (h2 : LR kdInt w B A' c' d.2.1) : kdCo.rd w B [.slice A d.1.length c, .slice A' d.2.1.length c', .int .i64 d.2.2.1, .int .i64 d.2.2.2.1, .int .i64 d.2.2.2.2.1, .int .i64 d.2.2.2.2.2] d :=
  ⟨[.slice A d.1.length c], _, rfl, ⟨A, c, rfl, h1⟩, [.slice A' d.2.1.length c'], _, rfl, ⟨A', c', rfl, h2⟩, [.int .i64 d.2.2.1], _, rfl, rfl, [.int .i64 d.2.2.2.1], _, rfl, rfl, [.int .i64 d.2.2.2.2.1], _, rfl, rfl, rfl⟩
theorem kdCo.mkOwn {w : World} {d : CoD} {A A' : Option Addr} {c c' : Nat} {f1 f2 : List Nat} (h1 : LO kdEl 55 w A c d.1 f1) (h2 : LO kdInt 3 w A' c' d.2.1 f2) (hd : ∀ i ∈ f1, i ∉ f2) : kdCo.own w [.slice A d.1.length c, .slice A' d.2.1.length c', .int .i64 d.2.2.1, .int .i64 d.2.2.2.1, .int .i64 d.2.2.2.2.1, .int .i64 d.2.2.2.2.2] d (f1 ++ f2) := by
  have hnd : (f1 ++ f2).Nodup := by
    rw [List.nodup_append]
    exact ⟨h1.nodup, h2.nodup, fun a ha b hb e => hd a ha (e ▸ hb)⟩
  exact ⟨[.slice A d.1.length c], _, f1, f2, rfl, ⟨A, c, rfl, h1⟩, ⟨[.slice A' d.2.1.length c'], _, f2, [], rfl, ⟨A', c', rfl, h2⟩, ⟨[.int .i64 d.2.2.1], _, [], [], rfl, ⟨rfl, rfl⟩, ⟨[.int .i64 d.2.2.2.1], _, [], [], rfl, ⟨rfl, rfl⟩, ⟨[.int .i64 d.2.2.2.2.1], _, [], [], rfl, ⟨rfl, rfl⟩, ⟨rfl, rfl⟩, rfl, by simp⟩, rfl, by simp⟩, rfl, by simp⟩, by simp, h2.nodup⟩, rfl, hnd⟩
theorem kdCo.val6 (a b c d e f : Value) : kdCo.val [a, b, c, d, e, f] = .agg #[a, b, c, d, e, f] := rfl
theorem kdCo.wt_eq (d : CoD) : kdCo.wt d = kdElS.wt d.1 + kdL.wt d.2.1 := by
  show kdElS.wt d.1 + (kdL.wt d.2.1 + (0 + (0 + (0 + 0)))) = _
  omega
theorem kdCo.cnt_eq (d : CoD) : kdCo.cnt d = kdElS.cnt d.1 + kdL.cnt d.2.1 := by
  show kdElS.cnt d.1 + (kdL.cnt d.2.1 + (0 + (0 + (0 + 0)))) = _
  omega

set_option maxRecDepth 100000 in
set_option maxHeartbeats 1000000 in
theorem kdCo.sz : SzD Try.prog kdCo 6 := by
  rintro w vs ⟨d1, d2, r, b, p, f⟩ l h hl0 hl1
  obtain ⟨A, c, A', c', rfl, h1, h2⟩ := kdCo.open_ h
  have H1 := hide h1
  have H2 := hide h2
  clear h h1 h2
  rw [kdCo.val6, kdCo.wt_eq]
  dsimp only at *
  obtain ⟨W1, hW1⟩ : ∃ W1, Hid (kdElS.wt d1 = W1) := ⟨_, rfl⟩
  obtain ⟨W2, hW2⟩ : ∃ W2, Hid (kdL.wt d2 = W2) := ⟨_, rfl⟩
  rw [hW1.out, hW2.out]
  obtain ⟨n, hn⟩ : ∃ n, Hid (d1.length = n) := ⟨_, rfl⟩
  obtain ⟨n', hn'⟩ : ∃ n', Hid (d2.length = n') := ⟨_, rfl⟩
  rw [hn.out, hn'.out]
  have hx0 := hide (Ext.alloc w (.cells #[.slice A n c, .slice A' n' c', .int .i64 r, .int .i64 b, .int .i64 p, .int .i64 f] 25))
  have B0 := hide (Blk.new (w := w) rfl #[.slice A n c, .slice A' n' c', .int .i64 r, .int .i64 b, .int .i64 p, .int .i64 f] 25)
  obtain ⟨R, hR⟩ : ∃ R, Hid ((if ((W1 + W2 : Nat) : Int) ≤ l then l - ((W1 + W2 : Nat) : Int) else -1) = R) := ⟨_, rfl⟩
  rw [hR.out]
  go_enter Try.func6, Try.ntmps6
  go_wp2_with fail
  refine (kdElS.sz _ [.slice A n c] d1 l ⟨A, c, by rw [hn.out], (H1.out.ext hx0.out (Nat.le_refl _)).more hx0.out.size⟩ hl0 hl1).mono ?_
  rintro e w1 ⟨rfl, hx1⟩
  rw [hW1.out]
  have cB := (B0.out.ext hx1).cell
  have X1 := hide (hx0.out.trans hx1)
  clear hx1
  by_cases hle : (W1 : Int) ≤ l
  · rw [if_pos hle]
    generalize hm : l - (W1 : Int) = m
    have hm0 : 0 ≤ m := by omega
    have hm1 : m ≤ 1048576 := by omega
    have HM := hide hm
    clear hm
    go_wp2_with fail
    refine (kdL.sz _ [.slice A' n' c'] d2 m ⟨A', c', by rw [hn'.out], (H2.out.ext X1.out (Nat.le_refl _)).more X1.out.size⟩ hm0 hm1).mono ?_
    rintro e w2 ⟨rfl, hx2⟩
    rw [hW2.out]
    have X2 := hide (X1.out.trans hx2)
    clear hx2
    by_cases hle2 : (W2 : Int) ≤ m
    · rw [if_pos hle2]
      go_wp2
      go_ret
      exact ⟨ret_int (by rw [← hR.out, if_pos (by have := HM.out; omega)]; have := HM.out; omega), X2.out⟩
    · rw [if_neg hle2]
      go_wp2
      go_ret
      exact ⟨ret_int (by rw [← hR.out, if_neg (by have := HM.out; omega)]), X2.out⟩
  · rw [if_neg hle]
    go_wp2
    go_ret
    exact ⟨ret_int (by rw [← hR.out, if_neg (by omega)]), X1.out⟩

set_option maxRecDepth 100000 in
set_option maxHeartbeats 2000000 in
theorem kdCo.to_ : ToD Try.prog kdCo 8 := by
  rintro w vs ⟨d1, d2, r, b, p, f⟩ h hwt
  obtain ⟨A, c, A', c', rfl, h1, h2⟩ := kdCo.open_ h
  have H1 := hide h1
  have H2 := hide h2
  rw [kdCo.wt_eq] at hwt
  dsimp only at *
  have hw1 : kdElS.wt d1 ≤ 1048576 := by omega
  have hw2 : kdL.wt d2 ≤ 1048576 := by omega
  clear h h1 h2 hwt
  rw [kdCo.val6]
  obtain ⟨n, hn⟩ : ∃ n, Hid (d1.length = n) := ⟨_, rfl⟩
  obtain ⟨n', hn'⟩ : ∃ n', Hid (d2.length = n') := ⟨_, rfl⟩
  rw [hn.out, hn'.out]
  obtain ⟨W0, hW0⟩ : ∃ W0, Hid (W0 = ((w.alloc (.cells #[.slice A n c, .slice A' n' c', .int .i64 r, .int .i64 b, .int .i64 p, .int .i64 f] 25)).alloc (.cells #[.slice none 0 0, .slice none 0 0, .int .i64 0, .int .i64 0, .int .i64 0, .int .i64 0] 31)).alloc (.cells #[.slice none 0 0, .slice none 0 0, .int .i64 0, .int .i64 0, .int .i64 0, .int .i64 0] 31)) := ⟨_, rfl⟩
  have X0 : Hid (Ext w W0) := by rw [hW0.out]; exact ((Ext.alloc w _).trans (Ext.alloc _ _)).trans (Ext.alloc _ _)
  have B1 : Hid (Blk W0 w.heap.size #[.slice A n c, .slice A' n' c', .int .i64 r, .int .i64 b, .int .i64 p, .int .i64 f] 25) := by rw [hW0.out]; exact ((Blk.new rfl _ _).alloc _).alloc _
  have B2 : Hid (Blk W0 (w.heap.size + 1) #[.slice none 0 0, .slice none 0 0, .int .i64 0, .int .i64 0, .int .i64 0, .int .i64 0] 31) := by rw [hW0.out]; exact (Blk.new (by simp) _ _).alloc _
  have B3 : Hid (Blk W0 (w.heap.size + 1 + 1) #[.slice none 0 0, .slice none 0 0, .int .i64 0, .int .i64 0, .int .i64 0, .int .i64 0] 31) := by rw [hW0.out]; exact Blk.new (by simp) _ _
  have S0 : Hid (w.heap.size + 1 + 1 < W0.heap.size) := B3.out.lt
  go_enter Try.func8, Try.ntmps8
  go_wp2_with fail
  rw [← hW0.out]
  refine (kdElS.to_ _ [.slice A n c] d1 ⟨A, c, by rw [hn.out], (H1.out.ext X0.out (Nat.le_refl _)).more X0.out.size⟩ hw1).mono ?_
  rintro e w1 ⟨vs1, fp1, rfl, ho1, hf1, hx1⟩
  obtain ⟨A1, c1, rfl, hl1⟩ := ho1
  rw [show kdElS.val [Value.slice A1 d1.length c1] = .slice A1 d1.length c1 from rfl, hn.out]
  replace B1 := hide (B1.out.ext hx1)
  replace B2 := hide (B2.out.ext hx1)
  replace B3 := hide (B3.out.ext hx1)
  have X1 := hide (X0.out.trans hx1)
  have HL1 := hide hl1
  have HF1 := hide hf1
  clear hx1 hl1 hf1 hW0
  have c1_ := B1.out.cell; have c3_ := B3.out.cell; have f3_ := B3.out.free
  go_wp2_with fail
  generalize hW1 : w1.setCell ⟨w.heap.size + 1 + 1, 0, none⟩ (.slice A1 n c1) = W1
  have X1' : Hid (Ext w W1) := by rw [← hW1]; exact Below.setCell X1.out (by simp <;> omega) _
  have HL1' : Hid (LO kdEl 55 W1 A1 c1 d1 fp1) := by rw [← hW1]; exact HL1.out.keep (fun i hi => Below.heap_setCell _ _ _ _ (by have := HF1.out i hi; have := S0.out; simp; omega))
  replace B1 : Hid _ := hide (show Blk W1 _ _ _ by rw [← hW1]; exact B1.out.far (by simp <;> omega) _)
  replace B2 : Hid _ := hide (show Blk W1 _ _ _ by rw [← hW1]; exact B2.out.far (by simp) _)
  replace B3 : Hid _ := hide (show Blk W1 _ _ _ by rw [← hW1]; exact B3.out.set 0 _)
  have SW := hide B3.out.lt
  clear hW1 c1_ c3_ f3_
  refine (kdL.to_ _ [.slice A' n' c'] d2 ⟨A', c', by rw [hn'.out], (H2.out.ext X1'.out (Nat.le_refl _)).more X1'.out.size⟩ hw2).mono ?_
  rintro e w2 ⟨vs2, fp2, rfl, ho2, hf2, hx2⟩
  obtain ⟨A2, c2, rfl, hl2⟩ := ho2
  rw [kdL.val1, hn'.out]
  replace B1 := hide (B1.out.ext hx2)
  replace B2 := hide (B2.out.ext hx2)
  replace B3 := hide (B3.out.ext hx2)
  have X2 := hide (X1'.out.trans hx2)
  have HL1'' := hide (HL1'.out.ext hx2)
  have HL2 := hide hl2
  have HF2 := hide hf2
  have HLt := hide HL1'.out.lt
  clear hx2 hl2 hf2
  have c1_ := B1.out.cell
  have c3_ := B3.out.cell; have f3_ := B3.out.free
  have c2_ := B2.out.cell; have f2_ := B2.out.free
  go_wp2
  refine bodyPost_ret (v := .agg #[.slice A1 n c1, .slice A2 n' c2, .int .i64 r, .int .i64 b, .int .i64 p, .int .i64 f]) (by simp [results, Try.results8, go_sem, c2_]) rfl ?_
  have hf1 : ∀ i ∈ fp1, w.heap.size + 1 + 1 < i := fun i hi => by have := HF1.out i hi; have := S0.out; omega
  have hf2 : ∀ i ∈ fp2, w.heap.size + 1 + 1 < i := fun i hi => by have := HF2.out i hi; have := SW.out; omega
  have hd : ∀ i ∈ fp1, i ∉ fp2 := fun i hi hi' => by have := HLt.out i hi; have := HF2.out i hi'; omega
  have mk : ∀ w' : World, (∀ i, w.heap.size + 1 + 1 < i → w'.heap[i]? = w2.heap[i]?) → kdCo.own w' [.slice A1 n c1, .slice A2 n' c2, .int .i64 r, .int .i64 b, .int .i64 p, .int .i64 f] (d1, d2, r, b, p, f) (fp1 ++ fp2) := by
    intro w' hw
    have h9 := kdCo.mkOwn (d := (d1, d2, r, b, p, f)) (HL1''.out.keep (fun i hi => hw i (hf1 i hi))) (HL2.out.keep (fun i hi => hw i (hf2 i hi))) hd
    dsimp only at h9
    rwa [hn.out, hn'.out] at h9
  refine ⟨[.slice A1 n c1, .slice A2 n' c2, .int .i64 r, .int .i64 b, .int .i64 p, .int .i64 f], fp1 ++ fp2, rfl, mk _ ?_, ?_, ?_⟩
  · intro i hi
    repeat rw [Below.heap_setCell _ _ _ _ (by simp; omega)]
  · intro i hi
    rcases List.mem_append.1 hi with h | h
    · have := hf1 i h; omega
    · have := hf2 i h; omega
  · repeat (refine Below.setCell ?_ (by simp <;> omega) _)
    exact X2.out

set_option maxRecDepth 100000 in
set_option maxHeartbeats 1000000 in
theorem kdCo.eq_ : EqD Try.prog kdCo 11 := by
  rintro w vs vs' ⟨d1, d2, r, b, p, f⟩ h h' hwt
  obtain ⟨A, c, A', c', rfl, h1, h2⟩ := kdCo.open_ h
  obtain ⟨D, e, D', e', rfl, h3, h4⟩ := kdCo.open_ h'
  have H1 := hide h1
  have H2 := hide h2
  have H3 := hide h3
  have H4 := hide h4
  rw [kdCo.wt_eq] at hwt
  dsimp only at *
  have hw1 : kdElS.wt d1 ≤ 1048576 := by omega
  have hw2 : kdL.wt d2 ≤ 1048576 := by omega
  clear h h1 h2 h' h3 h4 hwt
  rw [kdCo.val6, kdCo.val6]
  obtain ⟨n, hn⟩ : ∃ n, Hid (d1.length = n) := ⟨_, rfl⟩
  obtain ⟨n', hn'⟩ : ∃ n', Hid (d2.length = n') := ⟨_, rfl⟩
  rw [hn.out, hn'.out]
  have e1 : (r != r) = false := by simp
  have e2 : (b != b) = false := by simp
  have e3 : (p != p) = false := by simp
  have e4 : (f != f) = false := by simp
  obtain ⟨W0, hW0⟩ : ∃ W0, Hid (W0 = (w.alloc (.cells #[.slice A n c, .slice A' n' c', .int .i64 r, .int .i64 b, .int .i64 p, .int .i64 f] 31)).alloc (.cells #[.slice D n e, .slice D' n' e', .int .i64 r, .int .i64 b, .int .i64 p, .int .i64 f] 31)) := ⟨_, rfl⟩
  have X0 : Hid (Ext w W0) := by rw [hW0.out]; exact (Ext.alloc w _).trans (Ext.alloc _ _)
  have B1 := hide (show Blk W0 w.heap.size #[.slice A n c, .slice A' n' c', .int .i64 r, .int .i64 b, .int .i64 p, .int .i64 f] 31 by rw [hW0.out]; exact (Blk.new rfl _ _).alloc _)
  have B2 := hide (show Blk W0 (w.heap.size + 1) #[.slice D n e, .slice D' n' e', .int .i64 r, .int .i64 b, .int .i64 p, .int .i64 f] 31 by rw [hW0.out]; exact Blk.new (by simp) _ _)
  go_enter Try.func11, Try.ntmps11
  go_wp2_with fail
  rw [← hW0.out]
  clear hW0
  refine (kdElS.eq_ _ [.slice A n c] [.slice D n e] d1 ⟨A, c, by rw [hn.out], (H1.out.ext X0.out (Nat.le_refl _)).more X0.out.size⟩ ⟨D, e, by rw [hn.out], (H3.out.ext X0.out (Nat.le_refl _)).more X0.out.size⟩ hw1).mono ?_
  rintro e1 w1 ⟨rfl, hx1⟩
  have c1_ := (B1.out.ext hx1).cell; have c2_ := (B2.out.ext hx1).cell
  have X1 := hide (X0.out.trans hx1)
  replace B1 := hide (B1.out.ext hx1)
  replace B2 := hide (B2.out.ext hx1)
  clear hx1
  go_wp2_with fail
  clear c1_ c2_
  refine (kdL.eq_ _ [.slice A' n' c'] [.slice D' n' e'] d2 ⟨A', c', by rw [hn'.out], (H2.out.ext X1.out (Nat.le_refl _)).more X1.out.size⟩ ⟨D', e', by rw [hn'.out], (H4.out.ext X1.out (Nat.le_refl _)).more X1.out.size⟩ hw2).mono ?_
  rintro e1 w2 ⟨rfl, hx2⟩
  have X2 := hide (X1.out.trans hx2)
  have c3_ := (B1.out.ext hx2).cell; have c4_ := (B2.out.ext hx2).cell
  clear hx2
  go_wp2
  go_ret
  exact ⟨rfl, X2.out⟩

set_option maxRecDepth 100000 in
set_option maxHeartbeats 1000000 in
theorem kdCo.mark : MarkD Try.prog kdCo 12 := by
  rintro w vs ⟨d1, d2, r, b, p, f⟩ fp k h hwt hk0 hk1
  have h0 := h
  obtain ⟨v1, v2, f1, f2, hvs, ⟨A, c, rfl, h1⟩, ⟨v3, v4, g1, g2, rfl, ⟨A', c', rfl, h2⟩, ⟨v5, v6, f3, g3, rfl, ⟨h3, e3⟩, ⟨v7, v8, f4, g4, rfl, ⟨h4, e4⟩, ⟨v9, v10, f5, g5, rfl, ⟨h5, e5⟩, ⟨h6, e6⟩, e7, _⟩, e8, _⟩, e9, _⟩, e10, hnd2⟩, hfp, hnd⟩ := h
  have h3 : v5 = [.int .i64 r] := h3
  have h4 : v7 = [.int .i64 b] := h4
  have h5 : v9 = [.int .i64 p] := h5
  have h6 : v10 = [.int .i64 f] := h6
  subst h3 h4 h5 h6
  rw [e3, e4, e5, e6] at *
  subst e7
  subst e8
  subst e9
  simp only [List.append_nil] at e10
  subst e10
  rw [kdCo.wt_eq] at hwt
  rw [kdCo.cnt_eq] at hk1 ⊢
  dsimp only at *
  subst hvs
  have H1 := hide h1
  have H2 := hide h2
  have hw1 : kdElS.wt d1 ≤ 1048576 := by omega
  have hw2 : kdL.wt d2 ≤ 1048576 := by omega
  clear h1 h2 hwt h0
  have hdj : Hid (∀ i ∈ f1, i ∉ f2) := by rw [hfp, List.nodup_append] at hnd; exact fun i hi hi' => hnd.2.2 i hi i hi' rfl
  show Calls _ _ #[.agg #[.slice A d1.length c, .slice A' d2.length c', .int .i64 r, .int .i64 b, .int .i64 p, .int .i64 f], _] _ _
  obtain ⟨n, hn⟩ : ∃ n, Hid (d1.length = n) := ⟨_, rfl⟩
  obtain ⟨n', hn'⟩ : ∃ n', Hid (d2.length = n') := ⟨_, rfl⟩
  rw [hn.out, hn'.out]
  obtain ⟨C1, hC1⟩ : ∃ C1, Hid (kdElS.cnt d1 = C1) := ⟨_, rfl⟩
  obtain ⟨C2, hC2⟩ : ∃ C2, Hid (kdL.cnt d2 = C2) := ⟨_, rfl⟩
  rw [hC1.out, hC2.out] at hk1 ⊢
  have HFP := hide hfp
  have HND := hide hnd
  clear hfp hnd hnd2
  have X0 := hide (Ext.alloc w (.cells #[.slice A n c, .slice A' n' c', .int .i64 r, .int .i64 b, .int .i64 p, .int .i64 f] 31))
  have B1 := hide (Blk.new (w := w) rfl #[.slice A n c, .slice A' n' c', .int .i64 r, .int .i64 b, .int .i64 p, .int .i64 f] 31)
  go_enter Try.func12, Try.ntmps12
  go_wp2_with fail
  refine (kdElS.mark _ [.slice A n c] d1 f1 k ⟨A, c, by rw [hn.out], H1.out.ext X0.out⟩ hw1 hk0 (by rw [hC1.out]; omega)).mono ?_
  rintro e w1 ⟨rfl, ho1, ht1⟩
  rw [hC1.out]
  have B1' := B1.out.tchF ht1 (fun hm => by have := H1.out.lt _ hm; omega)
  have c1_ := B1'.cell
  have H2' := hide ((kdL.own_tchF (show kdL.own _ [.slice A' d2.length c'] d2 f2 from ⟨A', c', rfl, H2.out.ext X0.out⟩) ht1 (fun i hi hi' => hdj.out i hi' hi)))
  have HO1 := hide ho1
  have HT1 := hide ht1
  clear ho1 ht1 B1'
  go_wp2_with fail
  refine (kdL.mark _ [.slice A' n' c'] d2 f2 (k + C1) (by rw [← hn'.out]; exact H2'.out) hw2 (by omega) (by rw [hC2.out]; omega)).mono ?_
  rintro e w2 ⟨rfl, ho2, ht2⟩
  rw [hC2.out]
  have HO2 := hide ho2
  have HT2 := hide ht2
  clear ho2 ht2
  go_wp2
  go_ret
  refine ⟨ret_int (by omega), ⟨[.slice A n c], _, f1, f2, rfl, kdElS.own_tchF HO1.out HT2.out hdj.out, ⟨[.slice A' n' c'], _, f2, [], rfl, ?_, ⟨[.int .i64 r], _, [], [], rfl, ⟨rfl, rfl⟩, ⟨[.int .i64 b], _, [], [], rfl, ⟨rfl, rfl⟩, ⟨[.int .i64 p], _, [], [], rfl, ⟨rfl, rfl⟩, ⟨rfl, rfl⟩, rfl, by simp⟩, rfl, by simp⟩, rfl, by simp⟩, by simp, kdL.own_nodup HO2.out⟩, HFP.out, HND.out⟩, ?_⟩
  · show kdL.own w2 [.slice A' n' c'] (kdL.mrk (k + kdElS.cnt d1) d2) f2
    rw [hC1.out]
    exact HO2.out
  · rw [HFP.out]
    exact ((TchF.of_ext X0.out).trans (HT1.out.more (fun i hi => by simp [hi]))).trans (HT2.out.more (fun i hi => by simp [hi]))

theorem cntCo_wt (d : CoD) : kdCo.cnt d ≤ 4 * kdCo.wt d := by
  have h1 : kdElS.cnt d.1 ≤ 4 * kdElS.wt d.1 := cntL_le kdEl 4 (fun x => by have : kdEl.cnt x = 4 := rfl; omega) d.1
  have h2 : kdL.cnt d.2.1 = d.2.1.length := cntL_int _
  have h3 : kdL.wt d.2.1 = d.2.1.length := wtL_int _
  rw [kdCo.wt_eq, kdCo.cnt_eq]
  omega
/-- Codes, as the laws hand them about. -/
def kC : Kind CoD where
  rd w v d := ∃ vs, v = kdCo.val vs ∧ kdCo.rd w w.heap.size vs d
  fr w lo hi v d := ∃ vs fp, v = kdCo.val vs ∧ kdCo.own w vs d fp ∧ (∀ i ∈ fp, lo ≤ i ∧ i < hi)
  ok d := kdCo.wt d ≤ 1048576
  mrk := kdCo.mrk
  cnt := kdCo.cnt
  rd_ext := by
    rintro w w' v d ⟨vs, rfl, h⟩ hx
    exact ⟨vs, rfl, kdCo.rd_more (kdCo.rd_ext h hx (Nat.le_refl _)) hx.size⟩
  fr_rd := by
    rintro w lo hi v d ⟨vs, fp, rfl, h, _⟩
    exact ⟨vs, rfl, kdCo.own_rd h⟩
  fr_tch := by
    rintro w w' lo hi lo' hi' v d ⟨vs, fp, rfl, h, hf⟩ k hd
    refine ⟨vs, fp, rfl, kdCo.own_keep h (fun i hi' => k.block i (kdCo.own_lt h i hi') ?_), hf⟩
    have := hf i hi'
    omega
  ok_cnt := fun {d} h => by have h1 := cntCo_wt d; have h2 : kdCo.wt d ≤ 1048576 := h; omega
def kC.wt (d : CoD) : Nat := kdCo.wt d
theorem kC.ok_of {d : CoD} (h : ¬ 1048576 < kC.wt d) : kC.ok d := Nat.le_of_not_lt h
theorem kC.lr {w : World} {v : Value} {d : CoD} (h : kC.rd w v d) : ∃ A c A' c', v = .agg #[.slice A d.1.length c, .slice A' d.2.1.length c', .int .i64 d.2.2.1, .int .i64 d.2.2.2.1, .int .i64 d.2.2.2.2.1, .int .i64 d.2.2.2.2.2] ∧ LR kdEl w w.heap.size A c d.1 ∧ LR kdInt w w.heap.size A' c' d.2.1 := by
  obtain ⟨vs, rfl, h⟩ := h
  obtain ⟨A, c, A', c', rfl, h1⟩ := kdCo.open_ h
  exact ⟨A, c, A', c', rfl, h1⟩
theorem kC.shape {w : World} {v : Value} {d : CoD} (h : kC.rd w v d) : ∃ A n c A' n' c' r b p f, v = .agg #[.slice A n c, .slice A' n' c', .int .i64 r, .int .i64 b, .int .i64 p, .int .i64 f] := by
  obtain ⟨A, c, A', c', rfl, _⟩ := kC.lr h
  exact ⟨A, _, c, A', _, c', _, _, _, _, rfl⟩
theorem kC.to : ToC Try.prog kC 8 := by
  rintro w v d ⟨vs, rfl, h⟩ hn
  refine (kdCo.to_ _ _ d h hn).mono ?_
  rintro e w' ⟨vs', fp, rfl, ho, hf, hx⟩
  exact ⟨_, rfl, ⟨vs', fp, rfl, ho, fun i hi => ⟨hf i hi, kdCo.own_lt ho i hi⟩⟩, hx⟩
theorem kC.eq : EqC Try.prog kC 11 := by
  rintro w v v' d ⟨vs, rfl, h⟩ ⟨vs', rfl, h'⟩ hn
  exact kdCo.eq_ _ _ _ d h h' hn
theorem kC.mark : MarkC Try.prog kC 12 := by
  rintro w lo hi v d k ⟨vs, fp, rfl, h, hf⟩ hn hk0 hk1
  refine (kdCo.mark _ _ d fp k h hn hk0 (by have := cntCo_wt d; have : kdCo.wt d ≤ 1048576 := hn; omega)).mono ?_
  rintro e w' ⟨rfl, ho, hg⟩
  exact ⟨rfl, ⟨vs, fp, rfl, ho, hf⟩, TchF.tch hg hf⟩
theorem kC.szL (w : World) (v : Value) (d : CoD) (l : Nat) (h : kC.rd w v d) (h0 : 0 ≤ (l : Int)) (h1 : (l : Int) ≤ 1048576) : Calls Try.prog 6 #[v, .int .i64 l] w fun e w' => e = .returned (.int .i64 (if (kC.wt d : Int) ≤ l then l - kC.wt d else -1)) ∧ Ext w w' := by
  obtain ⟨vs, rfl, h⟩ := h
  exact kdCo.sz _ _ d _ h h0 h1
theorem kC.sz (w : World) (v : Value) (d : CoD) (h : kC.rd w v d) : Calls Try.prog 6 #[v, .int .i64 1048576] w fun e w' => e = .returned (.int .i64 (if (kC.wt d : Int) ≤ 1048576 then 1048576 - kC.wt d else -1)) ∧ Ext w w' := kC.szL w v d 1048576 h (by decide) (by decide)
end Go.Proofs.Ytcnpbaldnhfebaa

/- Codes that are valid. -/
namespace Go.Proofs.Ytcnpbaldnhfebaa
open Go.RowKit Go.Sort
set_option linter.unusedVariables false

def ltS (a b : List UInt8) : Bool := Op.bytesLess (bs a).toList (bs b).toList
def elB (x : ElD) : Bool := nameB x.1 && inB 0 4 x.2.1 && inB 0 4 x.2.2.1 && inB 1 2000 x.2.2.2
def upB (xs : List ElD) (i : Nat) : Bool := decide (i = 0) || ltS (xs.getD (i - 1) noEl).1 (xs.getD i noEl).1
def elAt (xs : List ElD) (i : Nat) : Bool := elB (xs.getD i noEl) && upB xs i
def codeB (d : CoD) : Bool := inB 1 24 (d.1.length : Int) && ((d.2.1.length : Int) == 5) && d.2.1.all (inB 0 9) && inB 1 3 d.2.2.1 && inB 0 20 d.2.2.2.1 && inB 50 100 d.2.2.2.2.1 && inB 0 500 d.2.2.2.2.2 && (List.range d.1.length).all (elAt d.1)
theorem getD_some {α : Type} {xs : List α} {k : Nat} {x z : α} (h : xs[k]? = some x) : xs.getD k z = x := by
  rw [List.getD_eq_getElem?_getD, h]; rfl
theorem elAt_some {xs : List ElD} {k : Nat} {x : ElD} (h : xs[k]? = some x) : elAt xs k = (elB x && upB xs k) := by
  unfold elAt; rw [getD_some h]
theorem upB_zero (xs : List ElD) : upB xs 0 = true := rfl
theorem upB_succ {xs : List ElD} {k : Nat} {x y : ElD} (hk : 0 < k) (hy : xs[k - 1]? = some y) (h : xs[k]? = some x) : upB xs k = ltS y.1 x.1 := by
  unfold upB; rw [getD_some h, getD_some hy]
  have : decide (k = 0) = false := by simp; omega
  rw [this]; rfl
set_option maxHeartbeats 1000000 in
theorem s.cdName_any (x : List UInt8) (w : World) (hx : x.length ≤ 9223372036854775807) : Calls Try.prog 101 #[.string (bs x)] w fun e w' => e = .returned (.bool (nameB x)) ∧ w = w' := by
  obtain ⟨n, hn⟩ : ∃ n, Hid (x.length = n) := ⟨_, rfl⟩
  have hz : (bs x).size = n := by rw [bs_size, hn.out]
  rw [hn.out] at hx
  have GET := hide (bs_get x)
  have HZ := hide hz
  clear hz
  obtain ⟨sb, hs⟩ : ∃ sb, Hid (bs x = sb) := ⟨_, rfl⟩
  rw [hs.out] at GET HZ ⊢
  have hz := HZ.out
  go_enter Try.func101, Try.ntmps101
  go_wp2
  go_loop [3] (fun i => ∃ k : Nat, k ≤ n ∧ i = .int .i64 k ∧ (x.take k).all nameByte = true) (fun i => n - (intOf i).toNat)
  case atStart => exact ⟨0, Nat.zero_le _, rfl, rfl⟩
  case round =>
    obtain ⟨k, hk, rfl, hall⟩ := hrel
    have H := hide hall; clear hall
    by_cases hlt : k < n
    · obtain ⟨y, hy⟩ : ∃ y, Hid (x[k]? = some y) := ⟨_, List.getElem?_eq_getElem (by rw [hn.out]; exact hlt)⟩
      go_wp2
      all_goals have e := GET.out k (by omega) y hy.out
      all_goals try simp only [e] at *
      all_goals first
        | (go_ret
           refine ⟨ret_bool ?_, rfl⟩
           have hb : nameByte y = false := by unfold nameByte; simp; omega
           rw [nameB, allL_stop hy.out hb]; rfl)
        | (go_round
           case rel =>
             have hb : nameByte y = true := by unfold nameByte; simp; omega
             exact ⟨k + 1, by omega, by go_num, allL_step hy.out H.out hb⟩
           case measure => simp [intOf]; omega)
    · go_wp2_with (go_at_call 68; refine (s.l1In_any _ _ _ _).mono ?_; rintro e w' ⟨rfl, rfl⟩)
      go_ret
      exact ⟨ret_bool (by rw [nameB, allL_end (by rw [hn.out]; omega) H.out, hn.out]; simp), rfl⟩

theorem i.isFamily_any (z : Int) (w : World) : Calls Try.prog 51 #[.int .i64 z] w fun e w' => e = .returned (.bool (inB 0 4 z)) ∧ w = w' := by
  go_enter Try.func51, Try.ntmps51
  go_wp2_with (go_at_call 48; refine (i.within_any _ _ _ _).mono ?_; rintro e w' ⟨rfl, rfl⟩)
  go_ret
  exact ⟨rfl, rfl⟩
set_option maxHeartbeats 1000000 in
theorem s.cdElement_any (x : ElD) (w : World) (hl : x.1.length ≤ 9223372036854775807) : Calls Try.prog 81 #[.agg #[.string (bs x.1), .int .i64 x.2.1, .int .i64 x.2.2.1, .int .i64 x.2.2.2]] w fun e w' => e = .returned (.bool (elB x)) ∧ Ext w w' := by
  obtain ⟨nm, x1, x2, x3⟩ := x
  have NM := hide (fun w' => s.cdName_any nm w' hl)
  obtain ⟨R, hR⟩ : ∃ R, Hid (elB (nm, x1, x2, x3) = R) := ⟨_, rfl⟩
  have SE : Hid (R = (nameB nm && inB 0 4 x1 && inB 0 4 x2 && inB 1 2000 x3)) := by show _ = _; rw [← hR.out]; rfl
  rw [hR.out]
  clear hR
  dsimp only at hl ⊢
  generalize bs nm = sb at *
  have X0 := hide (Ext.alloc w (.cells #[.string sb, .int .i64 x1, .int .i64 x2, .int .i64 x3] 55))
  cases q1 : nameB nm
  · have HF : Hid (R = false) := by show _ = _; rw [SE.out]; simp [q1]
    rw [q1] at NM
    clear q1
    go_enter Try.func81, Try.ntmps81
    go_wp2_with (first | (go_at_call 101; refine (NM.out _).mono ?_; rintro e w' ⟨rfl, rfl⟩) | (go_at_call 68; refine (s.l1In_any _ _ _ _).mono ?_; rintro e w' ⟨rfl, rfl⟩))
    go_ret
    exact ⟨ret_bool HF.out.symm, X0.out⟩
  rw [q1] at NM
  replace SE : Hid (R = (inB 0 4 x1 && inB 0 4 x2 && inB 1 2000 x3)) := by show _ = _; rw [SE.out, q1]; simp
  clear q1
  cases q2 : inB 0 4 x1
  · have HF : Hid (R = false) := by show _ = _; rw [SE.out]; simp [q2]
    go_enter Try.func81, Try.ntmps81
    go_wp2_with (first | (go_at_call 101; refine (NM.out _).mono ?_; rintro e w' ⟨rfl, rfl⟩) | (go_at_call 68; refine (s.l1In_any _ _ _ _).mono ?_; rintro e w' ⟨rfl, rfl⟩))
    go_ret
    exact ⟨ret_bool HF.out.symm, X0.out⟩
  replace SE : Hid (R = (inB 0 4 x2 && inB 1 2000 x3)) := by show _ = _; rw [SE.out, q2]; simp
  cases q3 : inB 0 4 x2
  · have HF : Hid (R = false) := by show _ = _; rw [SE.out]; simp [q3]
    go_enter Try.func81, Try.ntmps81
    go_wp2_with (first | (go_at_call 101; refine (NM.out _).mono ?_; rintro e w' ⟨rfl, rfl⟩) | (go_at_call 68; refine (s.l1In_any _ _ _ _).mono ?_; rintro e w' ⟨rfl, rfl⟩))
    go_ret
    exact ⟨ret_bool HF.out.symm, X0.out⟩
  replace SE : Hid (R = inB 1 2000 x3) := by show _ = _; rw [SE.out, q3]; simp
  go_enter Try.func81, Try.ntmps81
  go_wp2_with (first | (go_at_call 101; refine (NM.out _).mono ?_; rintro e w' ⟨rfl, rfl⟩) | (go_at_call 68; refine (s.l1In_any _ _ _ _).mono ?_; rintro e w' ⟨rfl, rfl⟩))
  go_ret
  exact ⟨ret_bool SE.out.symm, X0.out⟩

set_option maxRecDepth 100000 in
set_option maxHeartbeats 1000000 in
theorem i.IsCode_m (w : World) (v : Value) (d : CoD) (h : kC.rd w v d) (hok : kC.ok d) :
    Calls Try.prog 27 #[v] w fun e w' => e = .returned (.bool (codeB d)) ∧ Ext w w' := by
  obtain ⟨A, c, A', c', rfl, h1, h2⟩ := kC.lr h
  have hok : kdCo.wt d ≤ 1048576 := hok
  rw [kdCo.wt_eq] at hok
  obtain ⟨d1, d2, r, b, p, f⟩ := d
  dsimp only at *
  have hw1 : wtL kdEl d1 ≤ 1048576 := by have : kdElS.wt d1 = wtL kdEl d1 := rfl; omega
  have hw2 : d2.length ≤ 1048576 := by have : kdL.wt d2 = d2.length := wtL_int _; omega
  have k1 := wtL_len kdEl d1
  have a1 := h1.1; have a2 := h1.2.1; have a3 := h2.1; have a4 := h2.2.1
  have H1 := hide h1
  have AL := hide (fun (wq : World) (xq : Ext w wq) => i.allWithin_any A' d2.length c' w.heap.size d2 0 9 wq (h2.sl.ext xq (Nat.le_refl _)) hw2)
  clear h h1 h2 hok
  obtain ⟨R, hR⟩ : ∃ R, Hid (codeB (d1, d2, r, b, p, f) = R) := ⟨_, rfl⟩
  rw [hR.out]
  obtain ⟨n, hn⟩ : ∃ n, Hid (d1.length = n) := ⟨_, rfl⟩
  obtain ⟨n', hn'⟩ : ∃ n', Hid (d2.length = n') := ⟨_, rfl⟩
  have SE : Hid (R = (inB 1 24 (n : Int) && ((n' : Int) == 5) && d2.all (inB 0 9) && inB 1 3 r && inB 0 20 b && inB 50 100 p && inB 0 500 f && (List.range n).all (elAt d1))) := by show _ = _; rw [← hR.out, ← hn.out, ← hn'.out]; rfl
  clear hR
  rw [hn.out] at k1 a1 ⊢
  rw [hn'.out] at AL a3 hw2 ⊢
  have n1 : n ≤ 1048576 := by omega
  clear hw1 k1
  generalize hl : d2.all (inB 0 9) = lb at *
  clear hl
  have X0 := hide (Ext.alloc w (.cells #[.slice A n c, .slice A' n' c', .int .i64 r, .int .i64 b, .int .i64 p, .int .i64 f] 31))
  cases q0 : inB 1 24 (n : Int)
  case false =>
    have HF : Hid (R = false) := by show _ = _; rw [SE.out]; simp [q0]
    go_enter Try.func27, Try.ntmps27
    go_wp2_with (first | (go_at_call 48; refine (i.within_any _ _ _ _).mono ?_; rintro e w' ⟨rfl, rfl⟩) | (go_at_call 49; refine (AL.out _ X0.out).mono ?_; rintro e w' ⟨rfl, rfl⟩))
    go_ret
    exact ⟨ret_bool HF.out.symm, X0.out⟩
  replace SE : Hid (R = (((n' : Int) == 5) && lb && inB 1 3 r && inB 0 20 b && inB 50 100 p && inB 0 500 f && (List.range n).all (elAt d1))) := by show _ = _; rw [SE.out, q0]; simp
  by_cases q1 : n' = 5
  case neg =>
    have b5 : ((n' : Int) != 5) = true := by rw [bne_iff_ne]; intro h8; exact q1 (by omega)
    have b6 : ((n' : Int) == 5) = false := by rw [beq_eq_false_iff_ne]; intro h8; exact q1 (by omega)
    have HF : Hid (R = false) := by show _ = _; rw [SE.out]; simp [b6]
    clear q1
    go_enter Try.func27, Try.ntmps27
    go_wp2_with (first | (go_at_call 48; refine (i.within_any _ _ _ _).mono ?_; rintro e w' ⟨rfl, rfl⟩) | (go_at_call 49; refine (AL.out _ X0.out).mono ?_; rintro e w' ⟨rfl, rfl⟩))
    go_ret
    exact ⟨ret_bool HF.out.symm, X0.out⟩
  have b5 : ((n' : Int) != 5) = false := by simp [q1]
  have b6 : ((n' : Int) == 5) = true := by simp [q1]
  replace SE : Hid (R = (lb && inB 1 3 r && inB 0 20 b && inB 50 100 p && inB 0 500 f && (List.range n).all (elAt d1))) := by show _ = _; rw [SE.out, b6]; simp
  have q51 : n' ≤ 5 ∧ 5 ≤ n' := by omega
  clear q1
  cases lb
  case false =>
    have HF : Hid (R = false) := by show _ = _; rw [SE.out]; simp
    go_enter Try.func27, Try.ntmps27
    go_wp2_with (first | (go_at_call 48; refine (i.within_any _ _ _ _).mono ?_; rintro e w' ⟨rfl, rfl⟩) | (go_at_call 49; refine (AL.out _ X0.out).mono ?_; rintro e w' ⟨rfl, rfl⟩))
    go_ret
    exact ⟨ret_bool HF.out.symm, X0.out⟩
  replace SE : Hid (R = (inB 1 3 r && inB 0 20 b && inB 50 100 p && inB 0 500 f && (List.range n).all (elAt d1))) := by show _ = _; rw [SE.out]; simp
  cases q3 : inB 1 3 r
  case false =>
    have HF : Hid (R = false) := by show _ = _; rw [SE.out]; simp [q3]
    go_enter Try.func27, Try.ntmps27
    go_wp2_with (first | (go_at_call 48; refine (i.within_any _ _ _ _).mono ?_; rintro e w' ⟨rfl, rfl⟩) | (go_at_call 49; refine (AL.out _ X0.out).mono ?_; rintro e w' ⟨rfl, rfl⟩))
    go_ret
    exact ⟨ret_bool HF.out.symm, X0.out⟩
  replace SE : Hid (R = (inB 0 20 b && inB 50 100 p && inB 0 500 f && (List.range n).all (elAt d1))) := by show _ = _; rw [SE.out, q3]; simp
  cases q4 : inB 0 20 b
  case false =>
    have HF : Hid (R = false) := by show _ = _; rw [SE.out]; simp [q4]
    go_enter Try.func27, Try.ntmps27
    go_wp2_with (first | (go_at_call 48; refine (i.within_any _ _ _ _).mono ?_; rintro e w' ⟨rfl, rfl⟩) | (go_at_call 49; refine (AL.out _ X0.out).mono ?_; rintro e w' ⟨rfl, rfl⟩))
    go_ret
    exact ⟨ret_bool HF.out.symm, X0.out⟩
  replace SE : Hid (R = (inB 50 100 p && inB 0 500 f && (List.range n).all (elAt d1))) := by show _ = _; rw [SE.out, q4]; simp
  cases q5 : inB 50 100 p
  case false =>
    have HF : Hid (R = false) := by show _ = _; rw [SE.out]; simp [q5]
    go_enter Try.func27, Try.ntmps27
    go_wp2_with (first | (go_at_call 48; refine (i.within_any _ _ _ _).mono ?_; rintro e w' ⟨rfl, rfl⟩) | (go_at_call 49; refine (AL.out _ X0.out).mono ?_; rintro e w' ⟨rfl, rfl⟩))
    go_ret
    exact ⟨ret_bool HF.out.symm, X0.out⟩
  replace SE : Hid (R = (inB 0 500 f && (List.range n).all (elAt d1))) := by show _ = _; rw [SE.out, q5]; simp
  cases q6 : inB 0 500 f
  case false =>
    have HF : Hid (R = false) := by show _ = _; rw [SE.out]; simp [q6]
    go_enter Try.func27, Try.ntmps27
    go_wp2_with (first | (go_at_call 48; refine (i.within_any _ _ _ _).mono ?_; rintro e w' ⟨rfl, rfl⟩) | (go_at_call 49; refine (AL.out _ X0.out).mono ?_; rintro e w' ⟨rfl, rfl⟩))
    go_ret
    exact ⟨ret_bool HF.out.symm, X0.out⟩
  replace SE : Hid (R = ((List.range n).all (elAt d1))) := by show _ = _; rw [SE.out, q6]; simp
  obtain ⟨W0, hW0⟩ : ∃ W0, Hid (W0 = w.alloc (.cells #[.slice A n c, .slice A' n' c', .int .i64 r, .int .i64 b, .int .i64 p, .int .i64 f] 31)) := ⟨_, rfl⟩
  have X : Hid (Ext w W0) := by rw [hW0.out]; exact Ext.alloc w _
  have B0 : Hid (Blk W0 w.heap.size #[.slice A n c, .slice A' n' c', .int .i64 r, .int .i64 b, .int .i64 p, .int .i64 f] 31) := by rw [hW0.out]; exact Blk.new rfl _ _
  have SEL := hide (fun (k : Nat) (x : ElD) (h : d1[k]? = some x) => elAt_some h)
  go_enter Try.func27, Try.ntmps27
  go_wp2_with (first | (go_at_call 48; refine (i.within_any _ _ _ _).mono ?_; rintro e w' ⟨rfl, rfl⟩) | (go_at_call 49; refine (AL.out _ X0.out).mono ?_; rintro e w' ⟨rfl, rfl⟩))
  rw [← hW0.out]
  clear hW0 q0 b5 b6 q3 q4 q5 q6 AL
  go_loopw [47] (fun i wr => ∃ (k : Nat), k ≤ n ∧ i = .int .i64 k ∧ (List.range k).all (elAt d1) = true ∧ Blk wr w.heap.size #[.slice A n c, .slice A' n' c', .int .i64 r, .int .i64 b, .int .i64 p, .int .i64 f] 31 ∧ Ext w wr) (fun i _ => n - (intOf i).toNat)
  case atStart => exact ⟨0, Nat.zero_le _, rfl, rfl, B0.out, X.out⟩
  case round =>
    obtain ⟨k, hk, rfl, hall, hb0, hx⟩ := hrel
    clear B0 X
    have HA := hide hall
    have B0 := hide hb0
    have X := hide hx
    clear hall hb0 hx
    by_cases hlt : k < n
    · obtain ⟨x, hxk⟩ : ∃ x, Hid (d1[k]? = some x) := ⟨_, List.getElem?_eq_getElem (by rw [hn.out]; exact hlt)⟩
      obtain ⟨g, off, rfl, hg, u0, u1, u2, u3, xl⟩ := (H1.out.ext X.out (Nat.le_refl _)).element k x hxk.out
      have sz := X.out.size
      have S1 := SEL.out k x hxk.out
      obtain ⟨eb, heb⟩ : ∃ eb, Hid (elB x = eb) := ⟨_, rfl⟩
      rw [heb.out] at S1
      have EA := hide S1
      have LE := hide heb.out
      clear S1
      obtain ⟨W1, hW1⟩ : ∃ W1, Hid (W1 = wr.alloc (.cells #[.string (bs x.1), .int .i64 x.2.1, .int .i64 x.2.2.1, .int .i64 x.2.2.2] 55)) := ⟨_, rfl⟩
      have x1 : Ext wr W1 := by rw [hW1.out]; exact Ext.alloc _ _
      have B1 : Hid (Blk W1 wr.heap.size #[.string (bs x.1), .int .i64 x.2.1, .int .i64 x.2.2.1, .int .i64 x.2.2.2] 55) := by rw [hW1.out]; exact Blk.new rfl _ _
      have HS : Hid ((List.range n).all (elAt d1) = false → R = false) := fun h9 => by rw [SE.out, h9]
      by_cases hk0 : k = 0
      · have HU : Hid (elAt d1 k = eb) := by show _ = _; rw [EA.out, hk0, upB_zero]; simp
        have kp : ¬ (0 < k) := by omega
        clear EA
        have kI : decide ((0 : Int) < (k : Int)) = false := by simp; omega
        clear hk0
        cases e0 : nameB x.1
        case false =>
          have hf : eb = false := by rw [← LE.out]; simp [elB, e0]
          have HF := hide (HS.out (range_stop hlt (by rw [HU.out, hf] <;> rfl)))
          clear hf
          go_wp2_with (first | (go_at_call 50; refine (i.IsElementName_any x.1 _ xl).mono ?_; rintro e w' ⟨rfl, rfl⟩) | (go_at_call 51; refine (i.isFamily_any _ _).mono ?_; rintro e w' ⟨rfl, rfl⟩) | (go_at_call 48; refine (i.within_any _ _ _ _).mono ?_; rintro e w' ⟨rfl, rfl⟩))
          go_ret
          exact ⟨ret_bool HF.out.symm, by first | exact X.out.trans (Ext.alloc _ _) | (rw [← hW1.out]; exact X.out.trans x1)⟩
        cases e1 : inB 0 4 x.2.1
        case false =>
          have hf : eb = false := by rw [← LE.out]; simp [elB, e1]
          have HF := hide (HS.out (range_stop hlt (by rw [HU.out, hf] <;> rfl)))
          clear hf
          go_wp2_with (first | (go_at_call 50; refine (i.IsElementName_any x.1 _ xl).mono ?_; rintro e w' ⟨rfl, rfl⟩) | (go_at_call 51; refine (i.isFamily_any _ _).mono ?_; rintro e w' ⟨rfl, rfl⟩) | (go_at_call 48; refine (i.within_any _ _ _ _).mono ?_; rintro e w' ⟨rfl, rfl⟩))
          go_ret
          exact ⟨ret_bool HF.out.symm, by first | exact X.out.trans (Ext.alloc _ _) | (rw [← hW1.out]; exact X.out.trans x1)⟩
        cases e2 : inB 0 4 x.2.2.1
        case false =>
          have hf : eb = false := by rw [← LE.out]; simp [elB, e2]
          have HF := hide (HS.out (range_stop hlt (by rw [HU.out, hf] <;> rfl)))
          clear hf
          go_wp2_with (first | (go_at_call 50; refine (i.IsElementName_any x.1 _ xl).mono ?_; rintro e w' ⟨rfl, rfl⟩) | (go_at_call 51; refine (i.isFamily_any _ _).mono ?_; rintro e w' ⟨rfl, rfl⟩) | (go_at_call 48; refine (i.within_any _ _ _ _).mono ?_; rintro e w' ⟨rfl, rfl⟩))
          go_ret
          exact ⟨ret_bool HF.out.symm, by first | exact X.out.trans (Ext.alloc _ _) | (rw [← hW1.out]; exact X.out.trans x1)⟩
        cases e3 : inB 1 2000 x.2.2.2
        case false =>
          have hf : eb = false := by rw [← LE.out]; simp [elB, e3]
          have HF := hide (HS.out (range_stop hlt (by rw [HU.out, hf] <;> rfl)))
          clear hf
          go_wp2_with (first | (go_at_call 50; refine (i.IsElementName_any x.1 _ xl).mono ?_; rintro e w' ⟨rfl, rfl⟩) | (go_at_call 51; refine (i.isFamily_any _ _).mono ?_; rintro e w' ⟨rfl, rfl⟩) | (go_at_call 48; refine (i.within_any _ _ _ _).mono ?_; rintro e w' ⟨rfl, rfl⟩))
          go_ret
          exact ⟨ret_bool HF.out.symm, by first | exact X.out.trans (Ext.alloc _ _) | (rw [← hW1.out]; exact X.out.trans x1)⟩
        have ht : eb = true := by rw [← LE.out]; simp [elB, e0, e1, e2, e3]
        rw [ht] at HU
        clear ht
        have X1 := hide (X.out.trans x1)
        have B2 := hide (B0.out.ext x1)
        clear x1
        go_wp2_with (first | (go_at_call 50; refine (i.IsElementName_any x.1 _ xl).mono ?_; rintro e w' ⟨rfl, rfl⟩) | (go_at_call 51; refine (i.isFamily_any _ _).mono ?_; rintro e w' ⟨rfl, rfl⟩) | (go_at_call 48; refine (i.within_any _ _ _ _).mono ?_; rintro e w' ⟨rfl, rfl⟩))
        rw [← hW1.out]
        clear hW1
        have c0_ := B2.out.cell; have c1_ := B1.out.cell
        go_quiet (fail)
        go_wp2
        go_roundw
        case rel => exact ⟨k + 1, by omega, by go_num, range_step HA.out (by rw [HU.out]), B2.out.ext (Ext.drewN _ _), X1.out.trans (Ext.drewN _ _)⟩
        case measure => simp [intOf]; omega
      · have kp : 0 < k := by omega
        obtain ⟨y, hyk⟩ : ∃ y, Hid (d1[k - 1]? = some y) := ⟨_, List.getElem?_eq_getElem (by rw [hn.out]; omega)⟩
        obtain ⟨g', off', he, hg', t0, _⟩ := (H1.out.ext X.out (Nat.le_refl _)).element (k - 1) y hyk.out
        simp only [Option.some.injEq, Addr.mk.injEq, and_true] at he
        obtain ⟨rfl, rfl⟩ := he
        have HU : Hid (elAt d1 k = (eb && ltS y.1 x.1)) := by show _ = _; rw [EA.out, upB_succ kp hyk.out hxk.out]
        have TK : W1.cell? ⟨g, off + (k - 1) * 4, none⟩ = some (.string (bs y.1)) := (x1.cell (by show g < _; omega)).trans t0
        obtain ⟨lt, hlt9⟩ : ∃ lt, Op.bytesLess (bs y.1).toList (bs x.1).toList = lt := ⟨_, rfl⟩
        rw [show ltS y.1 x.1 = lt from hlt9] at HU
        have k1 : (k : Int) - 1 = ((k - 1 : Nat) : Int) := by omega
        have K1 := hide k1
        clear EA k1 t0
        cases e0 : nameB x.1
        case false =>
          have hf : eb = false := by rw [← LE.out]; simp [elB, e0]
          have HF := hide (HS.out (range_stop hlt (by rw [HU.out, hf] <;> rfl)))
          clear hf
          clear hlt9
          go_wp2_with (first | (go_at_call 50; refine (i.IsElementName_any x.1 _ xl).mono ?_; rintro e w' ⟨rfl, rfl⟩) | (go_at_call 51; refine (i.isFamily_any _ _).mono ?_; rintro e w' ⟨rfl, rfl⟩) | (go_at_call 48; refine (i.within_any _ _ _ _).mono ?_; rintro e w' ⟨rfl, rfl⟩))
          go_ret
          exact ⟨ret_bool HF.out.symm, by first | exact X.out.trans (Ext.alloc _ _) | (rw [← hW1.out]; exact X.out.trans x1)⟩
        cases e1 : inB 0 4 x.2.1
        case false =>
          have hf : eb = false := by rw [← LE.out]; simp [elB, e1]
          have HF := hide (HS.out (range_stop hlt (by rw [HU.out, hf] <;> rfl)))
          clear hf
          clear hlt9
          go_wp2_with (first | (go_at_call 50; refine (i.IsElementName_any x.1 _ xl).mono ?_; rintro e w' ⟨rfl, rfl⟩) | (go_at_call 51; refine (i.isFamily_any _ _).mono ?_; rintro e w' ⟨rfl, rfl⟩) | (go_at_call 48; refine (i.within_any _ _ _ _).mono ?_; rintro e w' ⟨rfl, rfl⟩))
          go_ret
          exact ⟨ret_bool HF.out.symm, by first | exact X.out.trans (Ext.alloc _ _) | (rw [← hW1.out]; exact X.out.trans x1)⟩
        cases e2 : inB 0 4 x.2.2.1
        case false =>
          have hf : eb = false := by rw [← LE.out]; simp [elB, e2]
          have HF := hide (HS.out (range_stop hlt (by rw [HU.out, hf] <;> rfl)))
          clear hf
          clear hlt9
          go_wp2_with (first | (go_at_call 50; refine (i.IsElementName_any x.1 _ xl).mono ?_; rintro e w' ⟨rfl, rfl⟩) | (go_at_call 51; refine (i.isFamily_any _ _).mono ?_; rintro e w' ⟨rfl, rfl⟩) | (go_at_call 48; refine (i.within_any _ _ _ _).mono ?_; rintro e w' ⟨rfl, rfl⟩))
          go_ret
          exact ⟨ret_bool HF.out.symm, by first | exact X.out.trans (Ext.alloc _ _) | (rw [← hW1.out]; exact X.out.trans x1)⟩
        cases e3 : inB 1 2000 x.2.2.2
        case false =>
          have hf : eb = false := by rw [← LE.out]; simp [elB, e3]
          have HF := hide (HS.out (range_stop hlt (by rw [HU.out, hf] <;> rfl)))
          clear hf
          clear hlt9
          go_wp2_with (first | (go_at_call 50; refine (i.IsElementName_any x.1 _ xl).mono ?_; rintro e w' ⟨rfl, rfl⟩) | (go_at_call 51; refine (i.isFamily_any _ _).mono ?_; rintro e w' ⟨rfl, rfl⟩) | (go_at_call 48; refine (i.within_any _ _ _ _).mono ?_; rintro e w' ⟨rfl, rfl⟩))
          go_ret
          exact ⟨ret_bool HF.out.symm, by first | exact X.out.trans (Ext.alloc _ _) | (rw [← hW1.out]; exact X.out.trans x1)⟩
        have ht : eb = true := by rw [← LE.out]; simp [elB, e0, e1, e2, e3]
        rw [ht] at HU
        clear ht
        have X1 := hide (X.out.trans x1)
        have B2 := hide (B0.out.ext x1)
        clear x1
        have kI : decide ((0 : Int) < (k : Int)) = true := by simp; omega
        go_wp2_with (first | (go_at_call 50; refine (i.IsElementName_any x.1 _ xl).mono ?_; rintro e w' ⟨rfl, rfl⟩) | (go_at_call 51; refine (i.isFamily_any _ _).mono ?_; rintro e w' ⟨rfl, rfl⟩) | (go_at_call 48; refine (i.within_any _ _ _ _).mono ?_; rintro e w' ⟨rfl, rfl⟩))
        rw [← hW1.out]
        clear hW1
        have c0_ := B2.out.cell; have c1_ := B1.out.cell
        have k1 := K1.out
        cases lt
        · go_quiet (fail)
          have HF := hide (HS.out (range_stop hlt (by rw [HU.out]; simp)))
          clear hlt9 k1
          go_wp2
          go_ret
          exact ⟨ret_bool HF.out.symm, X1.out.trans (Ext.drewN _ _)⟩
        · go_quiet (fail)
          clear hlt9 k1
          go_wp2
          go_roundw
          case rel => exact ⟨k + 1, by omega, by go_num, range_step HA.out (by rw [HU.out]; simp), B2.out.ext (Ext.drewN _ _), X1.out.trans (Ext.drewN _ _)⟩
          case measure => simp [intOf]; omega
    · have HE : Hid ((List.range n).all (elAt d1) = true) := by rw [show n = k from by omega]; exact HA.out
      have HF : Hid (R = true) := by show _ = _; rw [SE.out, HE.out]
      go_wp2
      go_ret
      exact ⟨ret_bool HF.out.symm, X.out⟩
end Go.Proofs.Ytcnpbaldnhfebaa

/- Codes that are valid: the reference. -/
namespace Go.Proofs.Ytcnpbaldnhfebaa
open Go.RowKit Go.Sort
set_option linter.unusedVariables false

set_option maxRecDepth 100000 in
set_option maxHeartbeats 1000000 in
theorem s.cdGood_m (w : World) (v : Value) (d : CoD) (h : kC.rd w v d) (hok : kC.ok d) :
    Calls Try.prog 67 #[v] w fun e w' => e = .returned (.bool (codeB d)) ∧ Ext w w' := by
  obtain ⟨A, c, A', c', rfl, h1, h2⟩ := kC.lr h
  have hok : kdCo.wt d ≤ 1048576 := hok
  rw [kdCo.wt_eq] at hok
  obtain ⟨d1, d2, r, b, p, f⟩ := d
  dsimp only at *
  have hw1 : wtL kdEl d1 ≤ 1048576 := by have : kdElS.wt d1 = wtL kdEl d1 := rfl; omega
  have hw2 : d2.length ≤ 1048576 := by have : kdL.wt d2 = d2.length := wtL_int _; omega
  have k1 := wtL_len kdEl d1
  have a1 := h1.1; have a2 := h1.2.1; have a3 := h2.1; have a4 := h2.2.1
  have H1 := hide h1
  have AL := hide (fun (wq : World) (xq : Ext w wq) => s.l1All_any A' d2.length c' w.heap.size d2 0 9 wq (h2.sl.ext xq (Nat.le_refl _)) hw2)
  clear h h1 h2 hok
  obtain ⟨R, hR⟩ : ∃ R, Hid (codeB (d1, d2, r, b, p, f) = R) := ⟨_, rfl⟩
  rw [hR.out]
  obtain ⟨n, hn⟩ : ∃ n, Hid (d1.length = n) := ⟨_, rfl⟩
  obtain ⟨n', hn'⟩ : ∃ n', Hid (d2.length = n') := ⟨_, rfl⟩
  have SE : Hid (R = (inB 1 24 (n : Int) && ((n' : Int) == 5) && d2.all (inB 0 9) && inB 1 3 r && inB 0 20 b && inB 50 100 p && inB 0 500 f && (List.range n).all (elAt d1))) := by show _ = _; rw [← hR.out, ← hn.out, ← hn'.out]; rfl
  clear hR
  rw [hn.out] at k1 a1 ⊢
  rw [hn'.out] at AL a3 hw2 ⊢
  have n1 : n ≤ 1048576 := by omega
  clear hw1 k1
  generalize hl : d2.all (inB 0 9) = lb at *
  clear hl
  obtain ⟨W0, hW0⟩ : ∃ W0, Hid (W0 = w.alloc (.cells #[.slice A n c, .slice A' n' c', .int .i64 r, .int .i64 b, .int .i64 p, .int .i64 f] 31)) := ⟨_, rfl⟩
  have X : Hid (Ext w W0) := by rw [hW0.out]; exact Ext.alloc w _
  have B0 : Hid (Blk W0 w.heap.size #[.slice A n c, .slice A' n' c', .int .i64 r, .int .i64 b, .int .i64 p, .int .i64 f] 31) := by rw [hW0.out]; exact Blk.new rfl _ _
  have SEL := hide (fun (k : Nat) (x : ElD) (h : d1[k]? = some x) => elAt_some h)
  go_enter Try.func67, Try.ntmps67
  go_wp2
  rw [← hW0.out]
  clear hW0
  go_loopw [8] (fun i wr => ∃ (k : Nat), k ≤ n ∧ i = .int .i64 k ∧ (List.range k).all (elAt d1) = true ∧ Blk wr w.heap.size #[.slice A n c, .slice A' n' c', .int .i64 r, .int .i64 b, .int .i64 p, .int .i64 f] 31 ∧ Ext w wr) (fun i _ => n - (intOf i).toNat)
  case atStart => exact ⟨0, Nat.zero_le _, rfl, rfl, B0.out, X.out⟩
  case round =>
    obtain ⟨k, hk, rfl, hall, hb0, hx⟩ := hrel
    clear B0 X
    have HA := hide hall
    have B0 := hide hb0
    have X := hide hx
    clear hall hb0 hx
    by_cases hlt : k < n
    · obtain ⟨x, hxk⟩ : ∃ x, Hid (d1[k]? = some x) := ⟨_, List.getElem?_eq_getElem (by rw [hn.out]; exact hlt)⟩
      obtain ⟨g, off, rfl, hg, u0, u1, u2, u3, xl⟩ := (H1.out.ext X.out (Nat.le_refl _)).element k x hxk.out
      have sz := X.out.size
      have S1 := SEL.out k x hxk.out
      obtain ⟨eb, heb⟩ : ∃ eb, Hid (elB x = eb) := ⟨_, rfl⟩
      rw [heb.out] at S1
      have EA := hide S1
      have LE := hide heb.out
      clear S1
      obtain ⟨W1, hW1⟩ : ∃ W1, Hid (W1 = wr.alloc (.cells #[.string (bs x.1), .int .i64 x.2.1, .int .i64 x.2.2.1, .int .i64 x.2.2.2] 55)) := ⟨_, rfl⟩
      have x1 : Ext wr W1 := by rw [hW1.out]; exact Ext.alloc _ _
      have B1 : Hid (Blk W1 wr.heap.size #[.string (bs x.1), .int .i64 x.2.1, .int .i64 x.2.2.1, .int .i64 x.2.2.2] 55) := by rw [hW1.out]; exact Blk.new rfl _ _
      have HS : Hid ((List.range n).all (elAt d1) = false → R = false) := fun h9 => by rw [SE.out, h9]; simp
      by_cases hk0 : k = 0
      · have HU : Hid (elAt d1 k = eb) := by show _ = _; rw [EA.out, hk0, upB_zero]; simp
        have kp : ¬ (0 < k) := by omega
        clear EA
        have kI : decide ((0 : Int) < (k : Int)) = false := by simp; omega
        clear hk0
        have CE := hide (fun dd os => ext_regrown (s.cdElement_any x (grow (redrawn W1 dd) os) xl))
        rw [heb.out] at CE
        have X1 := hide (X.out.trans x1)
        have B2 := hide (B0.out.ext x1)
        clear x1
        go_wp2
        rw [← hW1.out]
        clear hW1 u0 u1 u2 u3
        have c0_ := fun dd os => cell_regrown (show W1.cell? ⟨w.heap.size, 0, none⟩ = some (.slice (some ⟨g, off, none⟩) n c) from B2.out.cell 0) dd os
        have c10_ := fun dd os => cell_regrown (show W1.cell? ⟨wr.heap.size, 0, none⟩ = some (.string (bs x.1)) from B1.out.cell 0) dd os
        have c11_ := fun dd os => cell_regrown (show W1.cell? ⟨wr.heap.size, 1, none⟩ = some (.int .i64 x.2.1) from B1.out.cell 1) dd os
        have c12_ := fun dd os => cell_regrown (show W1.cell? ⟨wr.heap.size, 2, none⟩ = some (.int .i64 x.2.2.1) from B1.out.cell 2) dd os
        have c13_ := fun dd os => cell_regrown (show W1.cell? ⟨wr.heap.size, 3, none⟩ = some (.int .i64 x.2.2.2) from B1.out.cell 3) dd os
        cases eb
        case false =>
          refine wp_region_quiet_below (by kernel_rfl) (by kernel_rfl) ?_
          repeat (go_big_quiet_step (exact CE.out _ _))
          refine wpQuiet_nil ?_
          intro _ hw'
          obtain ⟨⟨dq, osq⟩, hw''⟩ := hw'
          subst hw''
          have Y2 := hide (ext_re W1 dq osq)
          clear c0_ c10_ c11_ c12_ c13_
          generalize grow (redrawn W1 dq) osq = w2 at *
          have HF := hide (HS.out (range_stop hlt (by rw [HU.out])))
          go_wp2
          go_ret
          exact ⟨ret_bool HF.out.symm, X1.out.trans Y2.out⟩
        case true =>
          refine wp_region_quiet_below (by kernel_rfl) (by kernel_rfl) ?_
          repeat (go_big_quiet_step (exact CE.out _ _))
          refine wpQuiet_nil ?_
          intro _ hw'
          obtain ⟨⟨dq, osq⟩, hw''⟩ := hw'
          subst hw''
          have Y2 := hide (ext_re W1 dq osq)
          clear c0_ c10_ c11_ c12_ c13_
          generalize grow (redrawn W1 dq) osq = w2 at *
          go_wp2
          go_roundw
          case rel => exact ⟨k + 1, by omega, by go_num, range_step HA.out (by rw [HU.out]), B2.out.ext Y2.out, X1.out.trans Y2.out⟩
          case measure => simp [intOf]; omega
      · have kp : 0 < k := by omega
        obtain ⟨y, hyk⟩ : ∃ y, Hid (d1[k - 1]? = some y) := ⟨_, List.getElem?_eq_getElem (by rw [hn.out]; omega)⟩
        obtain ⟨g', off', he, hg', t0, _⟩ := (H1.out.ext X.out (Nat.le_refl _)).element (k - 1) y hyk.out
        simp only [Option.some.injEq, Addr.mk.injEq, and_true] at he
        obtain ⟨rfl, rfl⟩ := he
        have HU : Hid (elAt d1 k = (eb && ltS y.1 x.1)) := by show _ = _; rw [EA.out, upB_succ kp hyk.out hxk.out]
        have TK : W1.cell? ⟨g, off + (k - 1) * 4, none⟩ = some (.string (bs y.1)) := (x1.cell (by show g < _; omega)).trans t0
        obtain ⟨lt, hlt9⟩ : ∃ lt, Op.bytesLess (bs y.1).toList (bs x.1).toList = lt := ⟨_, rfl⟩
        rw [show ltS y.1 x.1 = lt from hlt9] at HU
        have k1 : (k : Int) - 1 = ((k - 1 : Nat) : Int) := by omega
        have K1 := hide k1
        clear EA k1 t0
        have CE := hide (fun dd os => ext_regrown (s.cdElement_any x (grow (redrawn W1 dd) os) xl))
        rw [heb.out] at CE
        have X1 := hide (X.out.trans x1)
        have B2 := hide (B0.out.ext x1)
        clear x1
        have kI : decide ((0 : Int) < (k : Int)) = true := by simp; omega
        go_wp2
        rw [← hW1.out]
        clear hW1 u0 u1 u2 u3
        have c0_ := fun dd os => cell_regrown (show W1.cell? ⟨w.heap.size, 0, none⟩ = some (.slice (some ⟨g, off, none⟩) n c) from B2.out.cell 0) dd os
        have c10_ := fun dd os => cell_regrown (show W1.cell? ⟨wr.heap.size, 0, none⟩ = some (.string (bs x.1)) from B1.out.cell 0) dd os
        have c11_ := fun dd os => cell_regrown (show W1.cell? ⟨wr.heap.size, 1, none⟩ = some (.int .i64 x.2.1) from B1.out.cell 1) dd os
        have c12_ := fun dd os => cell_regrown (show W1.cell? ⟨wr.heap.size, 2, none⟩ = some (.int .i64 x.2.2.1) from B1.out.cell 2) dd os
        have c13_ := fun dd os => cell_regrown (show W1.cell? ⟨wr.heap.size, 3, none⟩ = some (.int .i64 x.2.2.2) from B1.out.cell 3) dd os
        have t1_ := fun dd os => cell_regrown TK dd os
        have k1 := K1.out
        cases eb
        case false =>
          refine wp_region_quiet_below (by kernel_rfl) (by kernel_rfl) ?_
          repeat (go_big_quiet_step (exact CE.out _ _))
          refine wpQuiet_nil ?_
          intro _ hw'
          obtain ⟨⟨dq, osq⟩, hw''⟩ := hw'
          subst hw''
          have Y2 := hide (ext_re W1 dq osq)
          clear c0_ c10_ c11_ c12_ c13_ t1_ k1 hlt9
          generalize grow (redrawn W1 dq) osq = w2 at *
          have HF := hide (HS.out (range_stop hlt (by rw [HU.out]; simp)))
          go_wp2
          go_ret
          exact ⟨ret_bool HF.out.symm, X1.out.trans Y2.out⟩
        case true =>
          cases lt
          case false =>
            refine wp_region_quiet_below (by kernel_rfl) (by kernel_rfl) ?_
            repeat (go_big_quiet_step (exact CE.out _ _))
            refine wpQuiet_nil ?_
            intro _ hw'
            obtain ⟨⟨dq, osq⟩, hw''⟩ := hw'
            subst hw''
            have Y2 := hide (ext_re W1 dq osq)
            clear c0_ c10_ c11_ c12_ c13_ t1_ k1 hlt9
            generalize grow (redrawn W1 dq) osq = w2 at *
            have HF := hide (HS.out (range_stop hlt (by rw [HU.out]; simp)))
            go_wp2
            go_ret
            exact ⟨ret_bool HF.out.symm, X1.out.trans Y2.out⟩
          case true =>
            refine wp_region_quiet_below (by kernel_rfl) (by kernel_rfl) ?_
            repeat (go_big_quiet_step (exact CE.out _ _))
            refine wpQuiet_nil ?_
            intro _ hw'
            obtain ⟨⟨dq, osq⟩, hw''⟩ := hw'
            subst hw''
            have Y2 := hide (ext_re W1 dq osq)
            clear c0_ c10_ c11_ c12_ c13_ t1_ k1 hlt9
            generalize grow (redrawn W1 dq) osq = w2 at *
            go_wp2
            go_roundw
            case rel => exact ⟨k + 1, by omega, by go_num, range_step HA.out (by rw [HU.out]; simp), B2.out.ext Y2.out, X1.out.trans Y2.out⟩
            case measure => simp [intOf]; omega
    · have HE : Hid ((List.range n).all (elAt d1) = true) := by rw [show n = k from by omega]; exact HA.out
      replace SE : Hid (R = (inB 1 24 (n : Int) && ((n' : Int) == 5) && lb && inB 1 3 r && inB 0 20 b && inB 50 100 p && inB 0 500 f)) := by show _ = _; rw [SE.out, HE.out]; simp
      have cB := B0.out.cell
      clear HE
      cases q0 : inB 1 24 (n : Int)
      case false =>
        have HF : Hid (R = false) := by show _ = _; rw [SE.out]; simp [q0]
        go_wp2_with (first | (go_at_call 68; refine (s.l1In_any _ _ _ _).mono ?_; rintro e w' ⟨rfl, rfl⟩) | (go_at_call 82; refine (AL.out _ X.out).mono ?_; rintro e w' ⟨rfl, rfl⟩))
        go_ret
        exact ⟨ret_bool HF.out.symm, X.out⟩
      replace SE : Hid (R = (((n' : Int) == 5) && lb && inB 1 3 r && inB 0 20 b && inB 50 100 p && inB 0 500 f)) := by show _ = _; rw [SE.out, q0]; simp
      by_cases q1 : n' = 5
      case neg =>
        have b5 : ((n' : Int) != 5) = true := by rw [bne_iff_ne]; intro h8; exact q1 (by omega)
        have b6 : ((n' : Int) == 5) = false := by rw [beq_eq_false_iff_ne]; intro h8; exact q1 (by omega)
        have HF : Hid (R = false) := by show _ = _; rw [SE.out]; simp [b6]
        clear q1
        go_wp2_with (first | (go_at_call 68; refine (s.l1In_any _ _ _ _).mono ?_; rintro e w' ⟨rfl, rfl⟩) | (go_at_call 82; refine (AL.out _ X.out).mono ?_; rintro e w' ⟨rfl, rfl⟩))
        go_ret
        exact ⟨ret_bool HF.out.symm, X.out⟩
      have b5 : ((n' : Int) != 5) = false := by simp [q1]
      have b6 : ((n' : Int) == 5) = true := by simp [q1]
      replace SE : Hid (R = (lb && inB 1 3 r && inB 0 20 b && inB 50 100 p && inB 0 500 f)) := by show _ = _; rw [SE.out, b6]; simp
      have q51 : n' ≤ 5 ∧ 5 ≤ n' := by omega
      clear q1
      cases lb
      case false =>
        have HF : Hid (R = false) := by show _ = _; rw [SE.out]; simp
        go_wp2_with (first | (go_at_call 68; refine (s.l1In_any _ _ _ _).mono ?_; rintro e w' ⟨rfl, rfl⟩) | (go_at_call 82; refine (AL.out _ X.out).mono ?_; rintro e w' ⟨rfl, rfl⟩))
        go_ret
        exact ⟨ret_bool HF.out.symm, X.out⟩
      replace SE : Hid (R = (inB 1 3 r && inB 0 20 b && inB 50 100 p && inB 0 500 f)) := by show _ = _; rw [SE.out]; simp
      cases q3 : inB 1 3 r
      case false =>
        have HF : Hid (R = false) := by show _ = _; rw [SE.out]; simp [q3]
        go_wp2_with (first | (go_at_call 68; refine (s.l1In_any _ _ _ _).mono ?_; rintro e w' ⟨rfl, rfl⟩) | (go_at_call 82; refine (AL.out _ X.out).mono ?_; rintro e w' ⟨rfl, rfl⟩))
        go_ret
        exact ⟨ret_bool HF.out.symm, X.out⟩
      replace SE : Hid (R = (inB 0 20 b && inB 50 100 p && inB 0 500 f)) := by show _ = _; rw [SE.out, q3]; simp
      cases q4 : inB 0 20 b
      case false =>
        have HF : Hid (R = false) := by show _ = _; rw [SE.out]; simp [q4]
        go_wp2_with (first | (go_at_call 68; refine (s.l1In_any _ _ _ _).mono ?_; rintro e w' ⟨rfl, rfl⟩) | (go_at_call 82; refine (AL.out _ X.out).mono ?_; rintro e w' ⟨rfl, rfl⟩))
        go_ret
        exact ⟨ret_bool HF.out.symm, X.out⟩
      replace SE : Hid (R = (inB 50 100 p && inB 0 500 f)) := by show _ = _; rw [SE.out, q4]; simp
      cases q5 : inB 50 100 p
      case false =>
        have HF : Hid (R = false) := by show _ = _; rw [SE.out]; simp [q5]
        go_wp2_with (first | (go_at_call 68; refine (s.l1In_any _ _ _ _).mono ?_; rintro e w' ⟨rfl, rfl⟩) | (go_at_call 82; refine (AL.out _ X.out).mono ?_; rintro e w' ⟨rfl, rfl⟩))
        go_ret
        exact ⟨ret_bool HF.out.symm, X.out⟩
      replace SE : Hid (R = (inB 0 500 f)) := by show _ = _; rw [SE.out, q5]; simp
      cases q6 : inB 0 500 f
      case false =>
        have HF : Hid (R = false) := by show _ = _; rw [SE.out]; simp [q6]
        go_wp2_with (first | (go_at_call 68; refine (s.l1In_any _ _ _ _).mono ?_; rintro e w' ⟨rfl, rfl⟩) | (go_at_call 82; refine (AL.out _ X.out).mono ?_; rintro e w' ⟨rfl, rfl⟩))
        go_ret
        exact ⟨ret_bool HF.out.symm, X.out⟩
      replace SE : Hid (R = (true)) := by show _ = _; rw [SE.out, q6]
      have HF : Hid (R = true) := by show _ = _; rw [SE.out]
      go_wp2_with (first | (go_at_call 68; refine (s.l1In_any _ _ _ _).mono ?_; rintro e w' ⟨rfl, rfl⟩) | (go_at_call 82; refine (AL.out _ X.out).mono ?_; rintro e w' ⟨rfl, rfl⟩))
      go_ret
      exact ⟨ret_bool HF.out.symm, X.out⟩
end Go.Proofs.Ytcnpbaldnhfebaa

/- The element with a name; lists of items whose names are known. -/
namespace Go.Proofs.Ytcnpbaldnhfebaa
open Go.RowKit Go.Sort
set_option linter.unusedVariables false

theorem bs_toList (x : List UInt8) : (bs x).toList = x := Go.ByteArray.toList_mk x
def findF : List ElD → List UInt8 → Int
  | [], _ => -1
  | x :: t, nm => if x.1 == nm then 0 else if findF t nm < 0 then -1 else findF t nm + 1
def neN (nm : List UInt8) (x : ElD) : Bool := !(x.1 == nm)
theorem findF_hit {xs : List ElD} {nm : List UInt8} {k : Nat} {x : ElD} (hx : xs[k]? = some x) (h : (xs.take k).all (neN nm) = true) (h1 : (x.1 == nm) = true) : findF xs nm = k := by
  induction xs generalizing k with
  | nil => simp at hx
  | cons y t ih =>
    cases k with
    | zero => simp at hx; subst hx; simp [findF, h1]
    | succ k =>
      simp at hx
      simp only [List.take_succ_cons, List.all_cons, Bool.and_eq_true] at h
      have h2 : (y.1 == nm) = false := by have := h.1; simpa [neN] using this
      have h3 := ih hx h.2
      rw [findF, h2, h3]
      simp
      omega
theorem findF_none {xs : List ElD} {nm : List UInt8} (h : xs.all (neN nm) = true) : findF xs nm = -1 := by
  induction xs with
  | nil => rfl
  | cons y t ih =>
    simp only [List.all_cons, Bool.and_eq_true] at h
    have h2 : (y.1 == nm) = false := by have := h.1; simpa [neN] using this
    rw [findF, h2, ih h.2]
    simp
theorem findF_some {xs : List ElD} {nm : List UInt8} (h : 0 ≤ findF xs nm) : ∃ (k : Nat) (x : ElD), findF xs nm = k ∧ xs[k]? = some x ∧ x.1 = nm := by
  induction xs with
  | nil => simp [findF] at h
  | cons y t ih =>
    by_cases h2 : (y.1 == nm) = true
    · exact ⟨0, y, by simp [findF, h2], rfl, by simpa using h2⟩
    · rw [findF, if_neg h2] at h ⊢
      by_cases h3 : findF t nm < 0
      · rw [if_pos h3] at h; omega
      · rw [if_neg h3]
        obtain ⟨k, x, e1, e2, e3⟩ := ih (by omega)
        exact ⟨k + 1, x, by rw [e1]; omega, by simpa using e2, e3⟩
theorem findF_ge (xs : List ElD) (nm : List UInt8) : -1 ≤ findF xs nm := by
  by_cases h : 0 ≤ findF xs nm
  · omega
  · induction xs with
    | nil => simp [findF]
    | cons y t ih =>
      unfold findF
      split
      · omega
      · split <;> omega
theorem findF_lt (xs : List ElD) (nm : List UInt8) : findF xs nm < xs.length ∨ findF xs nm = -1 := by
  by_cases h : 0 ≤ findF xs nm
  · obtain ⟨k, x, e, hx, _⟩ := findF_some h
    have := (List.getElem?_eq_some_iff.1 hx).1
    omega
  · have := findF_ge xs nm; omega

set_option maxHeartbeats 1000000 in
theorem closFind (x : ElD) (nm : List UInt8) (g : Nat) (w : World) (hg : w.cell? ⟨g, 0, none⟩ = some (.string (bs nm))) :
    Calls Try.prog 119 #[.agg #[.string (bs x.1), .int .i64 x.2.1, .int .i64 x.2.2.1, .int .i64 x.2.2.2], .pointer (some ⟨g, 0, none⟩)] w fun e w' => e = .returned (.bool (x.1 == nm)) ∧ Ext w w' := by
  have X0 := hide (Ext.alloc w (.cells #[.string (bs x.1), .int .i64 x.2.1, .int .i64 x.2.2.1, .int .i64 x.2.2.2] 55))
  have hg2 : (w.alloc (.cells #[.string (bs x.1), .int .i64 x.2.1, .int .i64 x.2.2.1, .int .i64 x.2.2.2] 55)).cell? ⟨g, 0, none⟩ = some (.string (bs nm)) := (X0.out.cell (World.block_lt_of_cell? w _ hg)).trans hg
  have E1 : Hid (((bs x.1).toList == (bs nm).toList) = (x.1 == nm)) := by show _ = _; rw [bs_toList, bs_toList]
  clear hg
  generalize bs x.1 = xb at *
  generalize bs nm = nb at *
  generalize x.2.1 = y1 at *
  generalize x.2.2.1 = y2 at *
  generalize x.2.2.2 = y3 at *
  go_enter Try.func119, Try.ntmps119
  go_wp2
  go_ret
  exact ⟨ret_bool E1.out, X0.out⟩

set_option maxHeartbeats 1000000 in
theorem indexFind (A : Option Addr) (c B : Nat) (xs : List ElD) (nm : List UInt8) (g : Nat) (w : World) (h : LR kdEl w B A c xs) (hB : B ≤ w.heap.size) (hn : xs.length ≤ 1048576) (hg : w.cell? ⟨g, 0, none⟩ = some (.string (bs nm))) :
    Calls Try.prog 118 #[.slice A xs.length c, .func (.func 119) #[] #[.pointer (some ⟨g, 0, none⟩)]] w fun e w' => e = .returned (.int .i64 (findF xs nm)) ∧ Ext w w' := by
  have H := hide h
  have HG := hide hg
  have a1 := h.1; have a2 := h.2.1
  have gl := World.block_lt_of_cell? w _ hg
  have gl : g < w.heap.size := gl
  clear h hg
  obtain ⟨n, hnn⟩ : ∃ n, Hid (xs.length = n) := ⟨_, rfl⟩
  rw [hnn.out] at a1 hn ⊢
  go_enter Try.func118, Try.ntmps118
  go_wp2
  go_loopw [8] (fun i wr => ∃ (k : Nat), k ≤ n ∧ i = .int .i64 k ∧ (xs.take k).all (neN nm) = true ∧ Ext w wr) (fun i _ => n - (intOf i).toNat)
  case atStart => exact ⟨0, Nat.zero_le _, rfl, rfl, Ext.refl _⟩
  case round =>
    obtain ⟨k, hk, rfl, hall, hx⟩ := hrel
    have HA := hide hall
    have HX := hide hx
    clear hall hx
    by_cases hlt : k < n
    · obtain ⟨x, hxk⟩ : ∃ x, Hid (xs[k]? = some x) := ⟨_, List.getElem?_eq_getElem (by rw [hnn.out]; exact hlt)⟩
      obtain ⟨b, off, rfl, hb, u0, u1, u2, u3, xl⟩ := (H.out.ext HX.out hB).element k x hxk.out
      have CF := hide (closFind x nm g wr ((HX.out.cell gl).trans HG.out))
      cases he : (x.1 == nm)
      · rw [he] at CF
        have HN : Hid (neN nm x = true) := by show _ = _; simp [neN, he]
        clear he
        go_wp2_with fail
        refine CF.out.mono ?_
        rintro e w2 ⟨rfl, x2⟩
        replace HX := hide (HX.out.trans x2)
        clear x2 u0 u1 u2 u3
        go_wp2
        go_roundw
        case rel => exact ⟨k + 1, by omega, by go_num, allL_step hxk.out HA.out HN.out, HX.out⟩
        case measure => simp [intOf]; omega
      · rw [he] at CF
        have HF := hide (findF_hit hxk.out HA.out he)
        clear he
        go_wp2_with fail
        refine CF.out.mono ?_
        rintro e w2 ⟨rfl, x2⟩
        replace HX := hide (HX.out.trans x2)
        clear x2 u0 u1 u2 u3
        go_wp2
        go_ret
        exact ⟨ret_int HF.out.symm, HX.out⟩
    · have HF := hide (findF_none (allL_end (by rw [hnn.out]; omega) HA.out))
      go_wp2
      go_ret
      exact ⟨ret_int HF.out.symm, HX.out⟩

set_option maxRecDepth 100000 in
set_option maxHeartbeats 1000000 in
theorem i.findElement_m (w : World) (v : Value) (d : CoD) (nm : List UInt8) (h : kC.rd w v d) (hok : kC.ok d) :
    Calls Try.prog 113 #[v, .string (bs nm)] w fun e w' => e = .returned (.int .i64 (findF d.1 nm)) ∧ Ext w w' := by
  obtain ⟨A, c, A', c', rfl, h1, h2⟩ := kC.lr h
  have hok : kdCo.wt d ≤ 1048576 := hok
  rw [kdCo.wt_eq] at hok
  obtain ⟨d1, d2, r, b, p, f⟩ := d
  dsimp only at *
  have hw1 : wtL kdEl d1 ≤ 1048576 := by have : kdElS.wt d1 = wtL kdEl d1 := rfl; omega
  have k1 := wtL_len kdEl d1
  have a1 := h1.1; have a2 := h1.2.1; have a3 := h2.1; have a4 := h2.2.1
  have H1 := hide h1
  clear h h1 h2 hok
  obtain ⟨n, hn⟩ : ∃ n, Hid (d1.length = n) := ⟨_, rfl⟩
  obtain ⟨n', hn'⟩ : ∃ n', Hid (d2.length = n') := ⟨_, rfl⟩
  rw [hn.out] at k1 a1 ⊢
  rw [hn'.out] at a3 ⊢
  have n1 : n ≤ 1048576 := by omega
  clear hw1 k1
  obtain ⟨W0, hW0⟩ : ∃ W0, Hid (W0 = (w.alloc (.cells #[.slice A n c, .slice A' n' c', .int .i64 r, .int .i64 b, .int .i64 p, .int .i64 f] 31)).alloc (.cells #[.string (bs nm)] 9)) := ⟨_, rfl⟩
  have X : Hid (Ext w W0) := by rw [hW0.out]; exact (Ext.alloc w _).trans (Ext.alloc _ _)
  have B1 : Hid (Blk W0 (w.heap.size + 1) #[.string (bs nm)] 9) := by rw [hW0.out]; exact Blk.new (by simp) _ _
  have IX := indexFind A c w.heap.size d1 nm (w.heap.size + 1) W0 (H1.out.ext X.out (Nat.le_refl _)) X.out.size (by rw [hn.out]; exact n1) (B1.out.cell 0)
  rw [hn.out] at IX
  replace IX := hide IX
  generalize bs nm = nb at *
  go_enter Try.func113, Try.ntmps113
  go_wp2_with fail
  rw [← hW0.out]
  clear hW0
  refine IX.out.mono ?_
  rintro e w1 ⟨rfl, x1⟩
  replace X := hide (X.out.trans x1)
  clear x1
  go_wp2
  go_ret
  exact ⟨rfl, X.out⟩

set_option maxRecDepth 100000 in
set_option maxHeartbeats 1000000 in
theorem s.cdFind_m (w : World) (v : Value) (d : CoD) (nm : List UInt8) (h : kC.rd w v d) (hok : kC.ok d) :
    Calls Try.prog 116 #[v, .string (bs nm)] w fun e w' => e = .returned (.int .i64 (findF d.1 nm)) ∧ Ext w w' := by
  obtain ⟨A, c, A', c', rfl, h1, h2⟩ := kC.lr h
  have hok : kdCo.wt d ≤ 1048576 := hok
  rw [kdCo.wt_eq] at hok
  obtain ⟨d1, d2, r, b, p, f⟩ := d
  dsimp only at *
  have hw1 : wtL kdEl d1 ≤ 1048576 := by have : kdElS.wt d1 = wtL kdEl d1 := rfl; omega
  have k1 := wtL_len kdEl d1
  have a1 := h1.1; have a2 := h1.2.1; have a3 := h2.1; have a4 := h2.2.1
  have H1 := hide h1
  clear h h1 h2 hok
  obtain ⟨n, hn⟩ : ∃ n, Hid (d1.length = n) := ⟨_, rfl⟩
  obtain ⟨n', hn'⟩ : ∃ n', Hid (d2.length = n') := ⟨_, rfl⟩
  rw [hn.out] at k1 a1 ⊢
  rw [hn'.out] at a3 ⊢
  have n1 : n ≤ 1048576 := by omega
  clear hw1 k1
  obtain ⟨W0, hW0⟩ : ∃ W0, Hid (W0 = w.alloc (.cells #[.slice A n c, .slice A' n' c', .int .i64 r, .int .i64 b, .int .i64 p, .int .i64 f] 31)) := ⟨_, rfl⟩
  have X : Hid (Ext w W0) := by rw [hW0.out]; exact Ext.alloc w _
  have EQ : Hid (∀ x : ElD, ((bs x.1).toList == (bs nm).toList) = (x.1 == nm)) := fun x => by rw [bs_toList, bs_toList]
  generalize bs nm = nb at *
  go_enter Try.func116, Try.ntmps116
  go_wp2
  rw [← hW0.out]
  clear hW0
  go_loopw [10] (fun i wr => ∃ (k : Nat), k ≤ n ∧ i = .int .i64 k ∧ (d1.take k).all (neN nm) = true ∧ Ext w wr) (fun i _ => n - (intOf i).toNat)
  case atStart => exact ⟨0, Nat.zero_le _, rfl, rfl, X.out⟩
  case round =>
    obtain ⟨k, hk, rfl, hall, hx⟩ := hrel
    clear X
    have HA := hide hall
    have HX := hide hx
    clear hall hx
    by_cases hlt : k < n
    · obtain ⟨x, hxk⟩ : ∃ x, Hid (d1[k]? = some x) := ⟨_, List.getElem?_eq_getElem (by rw [hn.out]; exact hlt)⟩
      obtain ⟨g, off, rfl, hg, u0, u1, u2, u3, xl⟩ := (H1.out.ext HX.out (Nat.le_refl _)).element k x hxk.out
      have X2 := hide (HX.out.trans (Ext.alloc wr (.cells #[.string (bs x.1), .int .i64 x.2.1, .int .i64 x.2.2.1, .int .i64 x.2.2.2] 55)))
      have EX := EQ.out x
      cases he : (x.1 == nm)
      · rw [he] at EX
        have HN : Hid (neN nm x = true) := by show _ = _; simp [neN, he]
        clear he
        generalize bs x.1 = xb at *
        go_wp2
        go_roundw
        case rel => exact ⟨k + 1, by omega, by go_num, allL_step hxk.out HA.out HN.out, X2.out⟩
        case measure => simp [intOf]; omega
      · rw [he] at EX
        have HF := hide (findF_hit hxk.out HA.out he)
        clear he
        generalize bs x.1 = xb at *
        go_wp2
        go_ret
        exact ⟨ret_int HF.out.symm, X2.out⟩
    · have HF := hide (findF_none (allL_end (by rw [hn.out]; omega) HA.out))
      go_wp2
      go_ret
      exact ⟨ret_int HF.out.symm, HX.out⟩
end Go.Proofs.Ytcnpbaldnhfebaa

/- Lists whose names are known; the worth of an element. -/
namespace Go.Proofs.Ytcnpbaldnhfebaa
open Go.RowKit Go.Sort
set_option linter.unusedVariables false

def knownI (els : List ElD) (x : ItD) : Bool := x.1.all (fun nm => decide (0 ≤ findF els nm))
def knownB (els : List ElD) (xs : List ItD) : Bool := xs.all (knownI els)
theorem elB_ok {x : ElD} (h : elB x = true) : 0 ≤ x.2.1 ∧ x.2.1 ≤ 4 ∧ 0 ≤ x.2.2.1 ∧ x.2.2.1 ≤ 4 ∧ 1 ≤ x.2.2.2 ∧ x.2.2.2 ≤ 2000 := by
  simp only [elB, inB, Bool.and_eq_true, decide_eq_true_eq] at h
  omega
structure CodeOk (d : CoD) : Prop where
  n1 : 1 ≤ d.1.length
  n2 : d.1.length ≤ 24
  lim : d.2.1.length = 5
  limb : ∀ z ∈ d.2.1, 0 ≤ z ∧ z ≤ 9
  rep : 1 ≤ d.2.2.1 ∧ d.2.2.1 ≤ 3
  bon : 0 ≤ d.2.2.2.1 ∧ d.2.2.2.1 ≤ 20
  kep : 50 ≤ d.2.2.2.2.1 ∧ d.2.2.2.2.1 ≤ 100
  els : ∀ (k : Nat) (x : ElD), d.1[k]? = some x → elB x = true
theorem codeB_ok {d : CoD} (h : codeB d = true) : CodeOk d := by
  simp only [codeB, Bool.and_eq_true, beq_iff_eq, List.all_eq_true, List.mem_range] at h
  obtain ⟨⟨⟨⟨⟨⟨⟨h1, h2⟩, h3⟩, h4⟩, h5⟩, h6⟩, h7⟩, h8⟩ := h
  simp only [inB, Bool.and_eq_true, decide_eq_true_eq] at h1 h4 h5 h6 h7
  refine ⟨by omega, by omega, by omega, fun z hz => ?_, by omega, by omega, by omega, fun k x hx => ?_⟩
  · have := h3 z hz
    simp only [inB, Bool.and_eq_true, decide_eq_true_eq] at this
    exact this
  · have := h8 k (List.getElem?_eq_some_iff.1 hx).1
    rw [elAt_some hx, Bool.and_eq_true] at this
    exact this.1

/-! ### Worths -/
def worthE (kp : Int) (x : ElD) (mark : Int) : Int := if mark = 1 then x.2.2.2 * kp / 100 else if mark = 2 then x.2.2.2 * 9 / 10 else if mark = 3 then 0 else x.2.2.2
def worthN (d : CoD) (nm : List UInt8) (mark : Int) : Int := worthE d.2.2.2.2.1 (d.1.getD (findF d.1 nm).toNat noEl) mark
theorem worthE_bd {kp : Int} {x : ElD} (mark : Int) (hk : 0 ≤ kp ∧ kp ≤ 100) (hx : 0 ≤ x.2.2.2 ∧ x.2.2.2 ≤ 2000) : 0 ≤ worthE kp x mark ∧ worthE kp x mark ≤ 2000 := by
  unfold worthE
  have h0 : 0 ≤ x.2.2.2 * kp := Int.mul_nonneg hx.1 hk.1
  have h1 : x.2.2.2 * kp ≤ x.2.2.2 * 100 := Int.mul_le_mul_of_nonneg_left hk.2 hx.1
  split
  · constructor
    · exact Int.ediv_nonneg h0 (by decide)
    · omega
  · split
    · omega
    · split <;> omega
theorem worthN_bd {d : CoD} (hd : CodeOk d) (nm : List UInt8) (mark : Int) : 0 ≤ worthN d nm mark ∧ worthN d nm mark ≤ 2000 := by
  refine worthE_bd mark ⟨by have := hd.kep; omega, hd.kep.2⟩ ?_
  cases hx : d.1[(findF d.1 nm).toNat]? with
  | none => rw [List.getD_eq_getElem?_getD, hx]; exact ⟨by decide, by decide⟩
  | some x => rw [getD_some hx]; have := elB_ok (hd.els _ _ hx); omega

set_option maxRecDepth 100000 in
set_option maxHeartbeats 1000000 in
theorem i.worthOf_m (w : World) (v : Value) (d : CoD) (x : ElD) (mark : Int) (h : kC.rd w v d) (hd : CodeOk d) (hx : elB x = true) :
    Calls Try.prog 112 #[v, .agg #[.string (bs x.1), .int .i64 x.2.1, .int .i64 x.2.2.1, .int .i64 x.2.2.2], .int .i64 mark] w fun e w' => e = .returned (.int .i64 (worthE d.2.2.2.2.1 x mark)) ∧ Ext w w' := by
  obtain ⟨A, c, A', c', rfl, h1, h2⟩ := kC.lr h
  have hb := elB_ok hx
  have hk := hd.kep
  clear h h1 h2 hx
  have e0 : ∀ m, worthE d.2.2.2.2.1 x m = if m = 1 then x.2.2.2 * d.2.2.2.2.1 / 100 else if m = 2 then x.2.2.2 * 9 / 10 else if m = 3 then 0 else x.2.2.2 := fun _ => rfl
  have E0 := hide (e0 mark)
  clear e0
  generalize worthE d.2.2.2.2.1 x mark = R at *
  generalize d.1.length = n at *
  generalize d.2.1.length = n' at *
  generalize d.2.2.1 = r at *
  generalize d.2.2.2.1 = b at *
  generalize d.2.2.2.2.2 = f at *
  generalize d.2.2.2.2.1 = kp at *
  generalize bs x.1 = sb at *
  generalize x.2.1 = y1 at *
  generalize x.2.2.1 = y2 at *
  generalize x.2.2.2 = y at *
  have h0 : 0 ≤ y * kp := Int.mul_nonneg (by omega) (by omega)
  have h1 : y * kp ≤ y * 100 := Int.mul_le_mul_of_nonneg_left (by omega) (by omega)
  have h2 : y * kp ≤ 200000 := by omega
  have X0 := hide ((Ext.alloc w (.cells #[.slice A n c, .slice A' n' c', .int .i64 r, .int .i64 b, .int .i64 kp, .int .i64 f] 31)).trans (Ext.alloc _ (.cells #[.string sb, .int .i64 y1, .int .i64 y2, .int .i64 y] 55)))
  clear h1
  by_cases m1 : mark = 1
  · have HF : Hid (R = y * kp / 100) := by show _ = _; rw [E0.out, if_pos m1]
    subst m1
    clear E0
    go_enter Try.func112, Try.ntmps112
    go_wp2
    go_ret
    exact ⟨ret_int HF.out.symm, X0.out⟩
  have b1 : (mark == 1) = false := by simp [m1]
  by_cases m2 : mark = 2
  · have HF : Hid (R = y * 9 / 10) := by show _ = _; rw [E0.out, if_neg m1, if_pos m2]
    subst m2
    clear E0 b1 m1
    go_enter Try.func112, Try.ntmps112
    go_wp2
    go_ret
    exact ⟨ret_int HF.out.symm, X0.out⟩
  have b2 : (mark == 2) = false := by simp [m2]
  by_cases m3 : mark = 3
  · have HF : Hid (R = 0) := by show _ = _; rw [E0.out, if_neg m1, if_neg m2, if_pos m3]
    subst m3
    clear E0 b1 m1 b2 m2
    go_enter Try.func112, Try.ntmps112
    go_wp2
    go_ret
    exact ⟨ret_int HF.out.symm, X0.out⟩
  have b3 : (mark == 3) = false := by simp [m3]
  have HF : Hid (R = y) := by show _ = _; rw [E0.out, if_neg m1, if_neg m2, if_neg m3]
  clear E0 m1 m2 m3
  go_enter Try.func112, Try.ntmps112
  go_wp2
  go_ret
  exact ⟨ret_int HF.out.symm, X0.out⟩

set_option maxRecDepth 100000 in
set_option maxHeartbeats 1000000 in
theorem s.bsWorth_m (w : World) (v : Value) (d : CoD) (nm : List UInt8) (mark : Int) (h : kC.rd w v d) (hok : kC.ok d) (hd : CodeOk d) (hf : 0 ≤ findF d.1 nm) :
    Calls Try.prog 108 #[v, .string (bs nm), .int .i64 mark] w fun e w' => e = .returned (.int .i64 (worthN d nm mark)) ∧ Ext w w' := by
  obtain ⟨k, x, hfk, hxk, -⟩ := findF_some hf
  have e0 : worthN d nm mark = if mark = 1 then x.2.2.2 * d.2.2.2.2.1 / 100 else if mark = 2 then x.2.2.2 * 9 / 10 else if mark = 3 then 0 else x.2.2.2 := by
    unfold worthN
    rw [hfk, Int.toNat_natCast, getD_some hxk]
    rfl
  have E0 := hide e0
  have hb := elB_ok (hd.els _ _ hxk)
  have hk := hd.kep
  have FE := hide (fun (wq : World) (xq : Ext w wq) => s.cdFind_m wq v d nm (kC.rd_ext h xq) hok)
  rw [hfk] at FE
  obtain ⟨A, c, A', c', rfl, h1, h2⟩ := kC.lr h
  obtain ⟨bb, off, rfl, hbb, u0, u1, u2, u3, xl⟩ := h1.element k x hxk
  have kl : k < d.1.length := (List.getElem?_eq_some_iff.1 hxk).1
  have a1 := h1.1; have a2 := h1.2.1
  have kl2 := hd.n2
  clear h h1 h2 e0 hf hfk u0 u1 u2 hxk
  generalize worthN d nm mark = R at *
  generalize d.1.length = n at *
  generalize d.2.1.length = n' at *
  generalize d.2.2.1 = r at *
  generalize d.2.2.2.1 = b at *
  generalize d.2.2.2.2.2 = f at *
  generalize d.2.2.2.2.1 = kp at *
  generalize bs nm = sb at *
  generalize x.2.2.2 = y at *
  have h0 : 0 ≤ y * kp := Int.mul_nonneg (by omega) (by omega)
  have h1 : y * kp ≤ y * 100 := Int.mul_le_mul_of_nonneg_left (by omega) (by omega)
  have h2 : y * kp ≤ 200000 := by omega
  clear h1
  obtain ⟨W0, hW0⟩ : ∃ W0, Hid (W0 = w.alloc (.cells #[.slice (some ⟨bb, off, none⟩) n c, .slice A' n' c', .int .i64 r, .int .i64 b, .int .i64 kp, .int .i64 f] 31)) := ⟨_, rfl⟩
  have X0 : Hid (Ext w W0) := by rw [hW0.out]; exact Ext.alloc w _
  have B0 : Hid (Blk W0 w.heap.size #[.slice (some ⟨bb, off, none⟩) n c, .slice A' n' c', .int .i64 r, .int .i64 b, .int .i64 kp, .int .i64 f] 31) := by rw [hW0.out]; exact Blk.new rfl _ _
  have U3 := hide u3
  clear u3
  go_enter Try.func108, Try.ntmps108
  go_wp2_with fail
  rw [← hW0.out]
  clear hW0
  refine (FE.out W0 X0.out).mono ?_
  rintro e w1 ⟨rfl, x1⟩
  have X1 := hide (X0.out.trans x1)
  have cB := (B0.out.ext x1).cell
  have u3 : w1.cell? ⟨bb, off + k * 4 + 3, none⟩ = some (.int .i64 y) := (X1.out.cell hbb).trans U3.out
  clear x1 FE
  by_cases m1 : mark = 1
  · have HF : Hid (R = y * kp / 100) := by show _ = _; rw [E0.out, if_pos m1]
    subst m1
    clear E0
    go_wp2
    go_ret
    exact ⟨ret_int HF.out.symm, X1.out⟩
  have b1 : (mark == 1) = false := by simp [m1]
  by_cases m2 : mark = 2
  · have HF : Hid (R = y * 9 / 10) := by show _ = _; rw [E0.out, if_neg m1, if_pos m2]
    subst m2
    clear E0 b1 m1
    go_wp2
    go_ret
    exact ⟨ret_int HF.out.symm, X1.out⟩
  have b2 : (mark == 2) = false := by simp [m2]
  by_cases m3 : mark = 3
  · have HF : Hid (R = 0) := by show _ = _; rw [E0.out, if_neg m1, if_neg m2, if_pos m3]
    subst m3
    clear E0 b1 m1 b2 m2
    go_wp2
    go_ret
    exact ⟨ret_int HF.out.symm, X1.out⟩
  have b3 : (mark == 3) = false := by simp [m3]
  have HF : Hid (R = y) := by show _ = _; rw [E0.out, if_neg m1, if_neg m2, if_neg m3]
  clear E0 m1 m2 m3
  go_wp2
  go_ret
  exact ⟨ret_int HF.out.symm, X1.out⟩
end Go.Proofs.Ytcnpbaldnhfebaa

/- Worths of an item, its full base, its unit. -/
namespace Go.Proofs.Ytcnpbaldnhfebaa
open Go.RowKit Go.Sort
set_option linter.unusedVariables false

def worthAt (d : CoD) (x : ItD) (i : Nat) : Int := worthN d (x.1.getD i []) (x.2.1.getD i 0)
def worthsN (d : CoD) (x : ItD) (k : Nat) : List Int := (List.range k).map (worthAt d x)
def worthsF (d : CoD) (x : ItD) : List Int := worthsN d x x.1.length
theorem worthsN_succ (d : CoD) (x : ItD) (k : Nat) : worthsN d x (k + 1) = worthsN d x k ++ [worthAt d x k] := by simp [worthsN, List.range_succ]
theorem worthsN_len (d : CoD) (x : ItD) (k : Nat) : (worthsN d x k).length = k := by simp [worthsN]
theorem worthsN_bd {d : CoD} (hd : CodeOk d) (x : ItD) (k : Nat) : ∀ z ∈ worthsN d x k, 0 ≤ z ∧ z ≤ 2000 := by
  intro z hz
  obtain ⟨i, _, rfl⟩ := List.mem_map.1 hz
  exact worthN_bd hd _ _
theorem sum_bd2 (zs : List Int) (h : ∀ z ∈ zs, 0 ≤ z ∧ z ≤ 2000) : 0 ≤ zs.sum ∧ zs.sum ≤ 2000 * (zs.length : Int) := by
  induction zs with
  | nil => simp
  | cons z t ih =>
    have h1 := h z (by simp)
    have h2 := ih (fun y hy => h y (by simp [hy]))
    rw [List.sum_cons, List.length_cons]
    omega
theorem sumW_bd {d : CoD} (hd : CodeOk d) (x : ItD) (k : Nat) : 0 ≤ (worthsN d x k).sum ∧ (worthsN d x k).sum ≤ 2000 * k := by
  have := sum_bd2 _ (worthsN_bd hd x k)
  rwa [worthsN_len] at this
def roundI (a b : Int) : Int := (2 * a + b) / (2 * b)
def fullF (d : CoD) (x : ItD) : Int := if x.2.2 then roundI ((worthsF d x).sum * (100 + d.2.2.2.1)) 100 else (worthsF d x).sum
def unitN (d : CoD) (x : ItD) (k : Nat) : Int := (worthsN d x k).foldl max 0
def unitF (d : CoD) (x : ItD) : Int := unitN d x x.1.length
theorem unitN_succ (d : CoD) (x : ItD) (k : Nat) : unitN d x (k + 1) = max (unitN d x k) (worthAt d x k) := by
  unfold unitN; rw [worthsN_succ, List.foldl_append]; rfl
theorem foldl_max_bd (zs : List Int) (a : Int) (h : ∀ z ∈ zs, 0 ≤ z ∧ z ≤ 2000) (ha : 0 ≤ a ∧ a ≤ 2000) : 0 ≤ zs.foldl max a ∧ zs.foldl max a ≤ 2000 := by
  induction zs generalizing a with
  | nil => exact ha
  | cons z t ih => exact ih _ (fun y hy => h y (by simp [hy])) (by have := h z (by simp); omega)
theorem unitN_bd {d : CoD} (hd : CodeOk d) (x : ItD) (k : Nat) : 0 ≤ unitN d x k ∧ unitN d x k ≤ 2000 := foldl_max_bd _ _ (worthsN_bd hd x k) (by omega)
theorem maxL_unit {d : CoD} (hd : CodeOk d) (x : ItD) : maxL (worthsF d x) = unitF d x := by
  unfold maxL unitF unitN worthsF
  have h := worthsN_bd hd x x.1.length
  cases hw : worthsN d x x.1.length with
  | nil => rfl
  | cons z t =>
    rw [hw] at h
    have h0 := h z (by simp)
    simp only [List.headD_cons, List.foldl_cons]
    congr 1
    omega
theorem fullF_bd {d : CoD} (hd : CodeOk d) (x : ItD) (h3 : x.1.length ≤ 3) : 0 ≤ fullF d x ∧ fullF d x ≤ 10000 := by
  have hs := sumW_bd hd x x.1.length
  have hb := hd.bon
  unfold fullF worthsF
  generalize (worthsN d x x.1.length).sum = s at *
  have h0 : 0 ≤ s * (100 + d.2.2.2.1) := Int.mul_nonneg hs.1 (by omega)
  have h1 : s * (100 + d.2.2.2.1) ≤ s * 120 := Int.mul_le_mul_of_nonneg_left (by omega) hs.1
  split
  · unfold roundI; omega
  · omega
/-- What an item must be for its worths to be read. -/
structure ItOk (d : CoD) (x : ItD) : Prop where
  n1 : 1 ≤ x.1.length
  n3 : x.1.length ≤ 3
  ml : x.2.1.length = x.1.length
  kn : ∀ (i : Nat) (nm : List UInt8), x.1[i]? = some nm → 0 ≤ findF d.1 nm
theorem itOk {d : CoD} {x : ItD} (h : itemB x = true) (h1 : knownI d.1 x = true) : ItOk d x := by
  obtain ⟨a, b, c⟩ := itemB_ok h
  refine ⟨a, b, c, fun i nm hi => ?_⟩
  simp only [knownI, List.all_eq_true, decide_eq_true_eq] at h1
  exact h1 nm (List.mem_of_getElem? hi)
theorem worthAt_some {d : CoD} {x : ItD} {i : Nat} {nm : List UInt8} {mk : Int} (h : x.1[i]? = some nm) (h' : x.2.1[i]? = some mk) : worthAt d x i = worthN d nm mk := by
  unfold worthAt; rw [getD_some h, getD_some h']
theorem LR.intAt {w : World} {B c : Nat} {A : Option Addr} {zs : List Int} (h : LR kdInt w B A c zs) (k : Nat) (z : Int) (hz : zs[k]? = some z) : ∃ b off, A = some ⟨b, off, none⟩ ∧ b < B ∧ w.cell? ⟨b, off + k, none⟩ = some (.int .i64 z) := by
  obtain ⟨b, off, cs, rfl, hb, rfl, hc⟩ := h.2.2 k z hz
  refine ⟨b, off, rfl, hb, ?_⟩
  have := hc 0 _ rfl
  rwa [show k * kdInt.size + 0 = k from by show k * 1 + 0 = k; omega] at this


set_option maxRecDepth 100000 in
set_option maxHeartbeats 4000000 in
theorem i.worths_m (w : World) (v : Value) (d : CoD) (vs : List Value) (x : ItD) (h : kC.rd w v d) (hok : kC.ok d) (hd : CodeOk d) (hx : kdItem.rd w w.heap.size vs x) (hi : ItOk d x) :
    Calls Try.prog 99 #[v, kdItem.val vs] w fun e w' => ∃ A' c', e = .returned (.slice A' x.1.length c') ∧ OwnI 3 w' w.heap.size A' x.1.length c' (worthsF d x) ∧ Ext w w' := by
  obtain ⟨Ac, cc, Al, cl, rfl, hle, _⟩ := kC.lr h
  have HR := hide h
  have HLE := hide hle
  obtain ⟨nc, NC⟩ : ∃ z, Hid (d.1.length = z) := ⟨_, rfl⟩
  obtain ⟨nl, NL⟩ : ∃ z, Hid (d.2.1.length = z) := ⟨_, rfl⟩
  obtain ⟨r, RN⟩ : ∃ z, Hid (d.2.2.1 = z) := ⟨_, rfl⟩
  obtain ⟨b, BN⟩ : ∃ z, Hid (d.2.2.2.1 = z) := ⟨_, rfl⟩
  obtain ⟨p, PN⟩ : ∃ z, Hid (d.2.2.2.2.1 = z) := ⟨_, rfl⟩
  obtain ⟨f, FN⟩ : ∃ z, Hid (d.2.2.2.2.2 = z) := ⟨_, rfl⟩
  rw [NC.out, NL.out, RN.out, BN.out, PN.out, FN.out] at HR ⊢
  clear hle
  obtain ⟨A1, c1, A2, c2, rfl, h1, h2⟩ := kdItem.open_ hx
  rw [kdItem.val3]
  have H1 := hide h1
  have H2 := hide h2
  have a1 := h1.1; have a2 := h1.2.1; have a3 := h2.1; have a4 := h2.2.1
  have i1 := hi.n1; have i3 := hi.n3
  have ML := hide hi.ml
  have HI := hide hi
  have HD := hide hd
  clear h hx h1 h2 hi hd
  rw [ML.out] at a3 ⊢
  obtain ⟨m, hm⟩ : ∃ m, Hid (x.1.length = m) := ⟨_, rfl⟩
  rw [hm.out] at a1 a3 i1 i3 ⊢
  obtain ⟨q, hq⟩ : ∃ q, Hid (x.2.2 = q) := ⟨_, rfl⟩
  rw [hq.out]
  obtain ⟨W0, hW0⟩ : ∃ W0, Hid (W0 = (w.alloc (.cells #[.slice Ac nc cc, .slice Al nl cl, .int .i64 r, .int .i64 b, .int .i64 p, .int .i64 f] 31)).alloc (.cells #[.slice A1 m c1, .slice A2 m c2, .bool q] 59)) := ⟨_, rfl⟩
  have X0 : Hid (Ext w W0) := by rw [hW0.out]; exact (Ext.alloc w _).trans (Ext.alloc _ _)
  have B0 : Hid (Blk W0 w.heap.size #[.slice Ac nc cc, .slice Al nl cl, .int .i64 r, .int .i64 b, .int .i64 p, .int .i64 f] 31) := by rw [hW0.out]; exact (Blk.new rfl _ _).alloc _
  have B1 : Hid (Blk W0 (w.heap.size + 1) #[.slice A1 m c1, .slice A2 m c2, .bool q] 59) := by rw [hW0.out]; exact Blk.new (by simp) _ _
  have zW := X0.out.size
  have zz : W0.heap.size = w.heap.size + 1 + 1 := by rw [hW0.out]; simp
  have O9 : Hid (OwnI 3 (W0.alloc (.cells #[] 3)) W0.heap.size (some ⟨w.heap.size + 1 + 1, 0, none⟩) 0 0 (worthsN d x 0)) := Own.emptyAt zz 3 (by omega)
  have cIa : (W0.alloc (.cells #[] 3)).cell? ⟨w.heap.size + 1, 0, none⟩ = some (.slice A1 m c1) := ((Ext.alloc W0 _).cell (show w.heap.size + 1 < W0.heap.size from B1.out.lt)).trans (B1.out.cell 0)
  have WF : Hid (worthsF d x = worthsN d x m) := by show _ = _; rw [← hm.out]; rfl
  rw [WF.out]
  have ZZ := hide zz
  clear zz
  rw [hW0.out] at cIa
  go_enter Try.func99, Try.ntmps99
  go_wp2
  rw [← hW0.out]
  clear hW0 cIa
  go_loopw [5, 12] (fun o i wr => ∃ (k : Nat) (A' : Option Addr) (c' : Nat), k ≤ m ∧ i = .int .i64 k ∧ o = .slice A' k c' ∧ OwnI 3 wr W0.heap.size A' k c' (worthsN d x k) ∧ Ext W0 wr) (fun _ i _ => m - (intOf i).toNat)
  case atStart => exact ⟨0, _, _, Nat.zero_le _, rfl, rfl, O9.out, Ext.alloc W0 _⟩
  case round =>
    obtain ⟨k, A', c', hk, rfl, rfl, hown, hx⟩ := hrel
    have HO := hide hown
    have HX := hide hx
    have oc1 := hown.capn; have oc2 := hown.capm
    clear hown hx
    by_cases hlt : k < m
    · obtain ⟨nm, hnk⟩ : ∃ nm, Hid (x.1[k]? = some nm) := ⟨_, List.getElem?_eq_getElem (by rw [hm.out]; exact hlt)⟩
      obtain ⟨mk, hmk⟩ : ∃ mk, Hid (x.2.1[k]? = some mk) := ⟨_, List.getElem?_eq_getElem (by rw [ML.out, hm.out]; exact hlt)⟩
      have XW := hide (X0.out.trans HX.out)
      obtain ⟨bn, on, rfl, hbn, u0, ul⟩ := (H1.out.ext XW.out (Nat.le_refl _)).str k nm hnk.out
      obtain ⟨bm, om, rfl, hbm, u1⟩ := (H2.out.ext XW.out (Nat.le_refl _)).intAt k mk hmk.out
      have sz := XW.out.size
      have WA : Hid (worthAt d x k = worthN d nm mk) := worthAt_some hnk.out hmk.out
      have FI := HI.out.kn k nm hnk.out
      obtain ⟨e9, y, hF, hyk, -⟩ := findF_some FI
      have HF := hide hF
      have WE : Hid (worthAt d x k = worthE d.2.2.2.2.1 y mk) := by
        show _ = _
        rw [WA.out]; unfold worthN; rw [hF, Int.toNat_natCast, getD_some hyk]
      have hle := HLE.out
      have hnc := NC.out.symm
      have e9n : e9 < nc := by rw [hnc]; exact (List.getElem?_eq_some_iff.1 hyk).1
      have n24 : nc ≤ 24 := by rw [hnc]; exact HD.out.n2
      have ccn : nc ≤ cc := by rw [hnc]; exact hle.1
      have ccm := hle.2.1
      obtain ⟨be, oe, rfl, hbe, v0, v1, v2, v3, _⟩ := hle.element e9 y hyk
      have FE := hide (fun (wq : World) (xq : Ext W0 wq) => i.findElement_m wq _ d nm (kC.rd_ext HR.out (X0.out.trans xq)) hok)
      rw [hF] at FE
      have WO := hide (fun (wq : World) (xq : Ext W0 wq) => i.worthOf_m wq _ d y mk (kC.rd_ext HR.out (X0.out.trans xq)) HD.out (HD.out.els _ _ hyk))
      rw [← WE.out] at WO
      have zl : w.heap.size + 1 < W0.heap.size := B1.out.lt
      have SF : Hid (∀ w', Ext W0 w' → (∀ i, w'.cell? ⟨w.heap.size, i, none⟩ = #[Value.slice (some ⟨be, oe, none⟩) nc cc, .slice Al nl cl, .int .i64 r, .int .i64 b, .int .i64 p, .int .i64 f][i]?) ∧ (∀ i, w'.cell? ⟨w.heap.size + 1, i, none⟩ = #[Value.slice (some ⟨bn, on, none⟩) m c1, .slice (some ⟨bm, om, none⟩) m c2, .bool q][i]?) ∧ w'.cell? ⟨be, oe + e9 * 4, none⟩ = some (.string (bs y.1)) ∧ w'.cell? ⟨be, oe + e9 * 4 + 1, none⟩ = some (.int .i64 y.2.1) ∧ w'.cell? ⟨be, oe + e9 * 4 + 2, none⟩ = some (.int .i64 y.2.2.1) ∧ w'.cell? ⟨be, oe + e9 * 4 + 3, none⟩ = some (.int .i64 y.2.2.2) ∧ w'.cell? ⟨bm, om + k, none⟩ = some (.int .i64 mk)) := by
        intro w' xq
        have xx := X0.out.trans xq
        obtain ⟨_, _, hh, _, hmc⟩ := (H2.out.ext xx (Nat.le_refl _)).intAt k mk hmk.out
        simp only [Option.some.injEq, Addr.mk.injEq, and_true] at hh
        obtain ⟨rfl, rfl⟩ := hh
        exact ⟨(B0.out.ext xq).cell, (B1.out.ext xq).cell, (xx.cell hbe).trans v0, (xx.cell hbe).trans v1, (xx.cell hbe).trans v2, (xx.cell hbe).trans v3, hmc⟩
      have kI : (e9 : Int) < nc := by omega
      have b1 : (k + 1) * 8 ≤ 140737488355328 := by omega
      have b2 : k + 1 ≤ 4611686018427387904 := by omega
      have TK := hide (worthsN_succ d x k)
      clear v0 v1 v2 v3 u1 hle hyk hF WA FI hnc
      generalize worthAt d x k = Z at *
      have cN := u0
      go_wp2
      clear cN u0
      obtain ⟨c0_, c1_, s2_, s3_, s4_, s5_, s6_⟩ := SF.out wr HX.out
      go_region_held3 (fun w' => (∀ i, w'.cell? ⟨w.heap.size, i, none⟩ = #[Value.slice (some ⟨be, oe, none⟩) nc cc, .slice Al nl cl, .int .i64 r, .int .i64 b, .int .i64 p, .int .i64 f][i]?) ∧ (∀ i, w'.cell? ⟨w.heap.size + 1, i, none⟩ = #[Value.slice (some ⟨bn, on, none⟩) m c1, .slice (some ⟨bm, om, none⟩) m c2, .bool q][i]?) ∧ w'.cell? ⟨be, oe + e9 * 4, none⟩ = some (.string (bs y.1)) ∧ w'.cell? ⟨be, oe + e9 * 4 + 1, none⟩ = some (.int .i64 y.2.1) ∧ w'.cell? ⟨be, oe + e9 * 4 + 2, none⟩ = some (.int .i64 y.2.2.1) ∧ w'.cell? ⟨be, oe + e9 * 4 + 3, none⟩ = some (.int .i64 y.2.2.2) ∧ w'.cell? ⟨bm, om + k, none⟩ = some (.int .i64 mk))
        (first | exact SF.out _ Y9.out | exact SF.out _ (Y3.out.trans (Ext.alloc w3 _)) | exact SF.out _ Y3.out | exact SF.out _ Y2.out | exact SF.out _ (HX.out.trans (Ext.drew wr)))
        (first
        | (refine step_append_sl (by rfl) (.tmp 17) (.tmp 32) (by rfl) elem_int (by rfl) (by rfl) (lo := W0.heap.size) (Own.alloc O3.out (.cells #[.int .i64 Z] 3)) (Sl.one w3 (.int .i64 Z) 3) (one_int _) b1 b2 (by have := Y3.out.size; simp; omega) ?_; intro A9 c9 w9 hap; have Y9 := hide (hap.ext (Y3.out.trans (Ext.alloc w3 _)) O3.out.fromLo); have HAP := hide hap; clear hap)
        | (go_at_call 112; refine (WO.out w2 Y2.out).mono ?_; rintro e w3 ⟨rfl, x3⟩; have Y3 := hide (Y2.out.trans x3); have O3 : Hid (OwnI 3 w3 W0.heap.size A' k c' (worthsN d x k)) := O2.out.below x3 (Nat.le_refl _); clear x3)
        | (go_at_call 113; refine (FE.out wr.drew (HX.out.trans (Ext.drew wr))).mono ?_; rintro e w2 ⟨rfl, x2⟩; have Y2 := hide ((HX.out.trans (Ext.drew wr)).trans x2); have O2 : Hid (OwnI 3 w2 W0.heap.size A' k c' (worthsN d x k)) := HO.out.below ((Ext.drew wr).trans x2) (Nat.le_refl _); clear x2))
      go_wp2
      go_roundw
      case rel => exact ⟨k + 1, A9, c9, by omega, by go_num, rfl, own_conv HAP.out.own (Nat.le_refl _) rfl (by rw [TK.out, List.map_append]; rfl), Y9.out⟩
      case measure => simp [intOf]; omega
    · have ek : m = k := by omega
      subst ek
      go_wp2
      go_ret
      exact ⟨A', c', rfl, HO.out.lower zW, X0.out.trans HX.out⟩

def sumN (d : CoD) (x : ItD) (k : Nat) : Int := (worthsN d x k).sum
theorem sumN_succ (d : CoD) (x : ItD) (k : Nat) : sumN d x (k + 1) = sumN d x k + worthAt d x k := by unfold sumN; rw [worthsN_succ, List.sum_append]; simp
theorem sumN_bd {d : CoD} (hd : CodeOk d) (x : ItD) (k : Nat) : 0 ≤ sumN d x k ∧ sumN d x k ≤ 2000 * k := sumW_bd hd x k

set_option maxRecDepth 100000 in
set_option maxHeartbeats 4000000 in
theorem s.bsFull_m (w : World) (v : Value) (d : CoD) (vs : List Value) (x : ItD) (h : kC.rd w v d) (hok : kC.ok d) (hd : CodeOk d) (hx : kdItem.rd w w.heap.size vs x) (hi : ItOk d x) :
    Calls Try.prog 94 #[v, kdItem.val vs] w fun e w' => e = .returned (.int .i64 (fullF d x)) ∧ Ext w w' := by
  obtain ⟨Ac, cc, Al, cl, rfl, hle, _⟩ := kC.lr h
  have HR := hide h
  have HLE := hide hle
  obtain ⟨nc, NC⟩ : ∃ z, Hid (d.1.length = z) := ⟨_, rfl⟩
  obtain ⟨nl, NL⟩ : ∃ z, Hid (d.2.1.length = z) := ⟨_, rfl⟩
  obtain ⟨r, RN⟩ : ∃ z, Hid (d.2.2.1 = z) := ⟨_, rfl⟩
  obtain ⟨b, BN⟩ : ∃ z, Hid (d.2.2.2.1 = z) := ⟨_, rfl⟩
  obtain ⟨p, PN⟩ : ∃ z, Hid (d.2.2.2.2.1 = z) := ⟨_, rfl⟩
  obtain ⟨f, FN⟩ : ∃ z, Hid (d.2.2.2.2.2 = z) := ⟨_, rfl⟩
  rw [NC.out, NL.out, RN.out, BN.out, PN.out, FN.out] at HR ⊢
  clear hle
  obtain ⟨A1, c1, A2, c2, rfl, h1, h2⟩ := kdItem.open_ hx
  rw [kdItem.val3]
  have H1 := hide h1
  have H2 := hide h2
  have a1 := h1.1; have a2 := h1.2.1; have a3 := h2.1; have a4 := h2.2.1
  have i1 := hi.n1; have i3 := hi.n3
  have ML := hide hi.ml
  have HI := hide hi
  have HD := hide hd
  clear h hx h1 h2 hi hd
  rw [ML.out] at a3 ⊢
  obtain ⟨m, hm⟩ : ∃ m, Hid (x.1.length = m) := ⟨_, rfl⟩
  rw [hm.out] at a1 a3 i1 i3 ⊢
  obtain ⟨q, hq⟩ : ∃ q, Hid (x.2.2 = q) := ⟨_, rfl⟩
  rw [hq.out]
  obtain ⟨W0, hW0⟩ : ∃ W0, Hid (W0 = (w.alloc (.cells #[.slice Ac nc cc, .slice Al nl cl, .int .i64 r, .int .i64 b, .int .i64 p, .int .i64 f] 31)).alloc (.cells #[.slice A1 m c1, .slice A2 m c2, .bool q] 59)) := ⟨_, rfl⟩
  have X0 : Hid (Ext w W0) := by rw [hW0.out]; exact (Ext.alloc w _).trans (Ext.alloc _ _)
  have B0 : Hid (Blk W0 w.heap.size #[.slice Ac nc cc, .slice Al nl cl, .int .i64 r, .int .i64 b, .int .i64 p, .int .i64 f] 31) := by rw [hW0.out]; exact (Blk.new rfl _ _).alloc _
  have B1 : Hid (Blk W0 (w.heap.size + 1) #[.slice A1 m c1, .slice A2 m c2, .bool q] 59) := by rw [hW0.out]; exact Blk.new (by simp) _ _
  have zW := X0.out.size
  have cIa := B1.out.cell
  rw [hW0.out] at cIa
  go_enter Try.func94, Try.ntmps94
  go_wp2
  rw [← hW0.out]
  clear hW0 cIa
  go_loopw [5, 11] (fun o i wr => ∃ (k : Nat), k ≤ m ∧ i = .int .i64 k ∧ o = .int .i64 (sumN d x k) ∧ Ext W0 wr) (fun _ i _ => m - (intOf i).toNat)
  case atStart => exact ⟨0, Nat.zero_le _, rfl, rfl, Ext.refl _⟩
  case round =>
    obtain ⟨k, hk, rfl, rfl, hx⟩ := hrel
    have HX := hide hx
    clear hx
    by_cases hlt : k < m
    · obtain ⟨nm, hnk⟩ : ∃ nm, Hid (x.1[k]? = some nm) := ⟨_, List.getElem?_eq_getElem (by rw [hm.out]; exact hlt)⟩
      obtain ⟨mk, hmk⟩ : ∃ mk, Hid (x.2.1[k]? = some mk) := ⟨_, List.getElem?_eq_getElem (by rw [ML.out, hm.out]; exact hlt)⟩
      have XW := hide (X0.out.trans HX.out)
      obtain ⟨bn, on, rfl, hbn, u0, ul⟩ := (H1.out.ext XW.out (Nat.le_refl _)).str k nm hnk.out
      obtain ⟨bm, om, rfl, hbm, u1⟩ := (H2.out.ext XW.out (Nat.le_refl _)).intAt k mk hmk.out
      have sz := XW.out.size
      have WA : Hid (worthAt d x k = worthN d nm mk) := worthAt_some hnk.out hmk.out
      have FI := HI.out.kn k nm hnk.out
      have FE := hide (fun (wq : World) (xq : Ext W0 wq) => s.bsWorth_m wq _ d nm mk (kC.rd_ext HR.out (X0.out.trans xq)) hok HD.out FI)
      rw [← WA.out] at FE
      have Zb := worthN_bd HD.out nm mk
      rw [← WA.out] at Zb
      have Sb := sumN_bd HD.out x k
      have SU := hide (sumN_succ d x k)
      have zl : w.heap.size + 1 < W0.heap.size := B1.out.lt
      have SF : Hid (∀ w', Ext W0 w' → (∀ i, w'.cell? ⟨w.heap.size, i, none⟩ = #[Value.slice Ac nc cc, .slice Al nl cl, .int .i64 r, .int .i64 b, .int .i64 p, .int .i64 f][i]?) ∧ (∀ i, w'.cell? ⟨w.heap.size + 1, i, none⟩ = #[Value.slice (some ⟨bn, on, none⟩) m c1, .slice (some ⟨bm, om, none⟩) m c2, .bool q][i]?) ∧ w'.cell? ⟨bm, om + k, none⟩ = some (.int .i64 mk)) := by
        intro w' xq
        have xx := X0.out.trans xq
        obtain ⟨_, _, hh, _, hmc⟩ := (H2.out.ext xx (Nat.le_refl _)).intAt k mk hmk.out
        simp only [Option.some.injEq, Addr.mk.injEq, and_true] at hh
        obtain ⟨rfl, rfl⟩ := hh
        exact ⟨(B0.out.ext xq).cell, (B1.out.ext xq).cell, hmc⟩
      clear u1 WA FI
      generalize worthAt d x k = Z at *
      generalize hs9 : sumN d x k = Sk at *
      clear hs9
      have cN := u0
      go_wp2
      clear cN u0
      obtain ⟨c0_, c1_, s2_⟩ := SF.out wr HX.out
      have kw : IntKind.i64.wrap (Sk + Z) = Sk + Z := IntWalk.i64_in _ (by omega)
      go_region_held3 (fun w' => (∀ i, w'.cell? ⟨w.heap.size, i, none⟩ = #[Value.slice Ac nc cc, .slice Al nl cl, .int .i64 r, .int .i64 b, .int .i64 p, .int .i64 f][i]?) ∧ (∀ i, w'.cell? ⟨w.heap.size + 1, i, none⟩ = #[Value.slice (some ⟨bn, on, none⟩) m c1, .slice (some ⟨bm, om, none⟩) m c2, .bool q][i]?) ∧ w'.cell? ⟨bm, om + k, none⟩ = some (.int .i64 mk))
        (first | exact SF.out _ Y2.out | exact SF.out _ (HX.out.trans (Ext.drew wr)))
        (first
        
        | (go_at_call 108; refine (FE.out wr.drew (HX.out.trans (Ext.drew wr))).mono ?_; rintro e w2 ⟨rfl, x2⟩; have Y2 := hide ((HX.out.trans (Ext.drew wr)).trans x2); clear x2))
      clear kw c0_ c1_ s2_
      go_wp2
      go_roundw
      case rel => exact ⟨k + 1, by omega, by go_num, by rw [SU.out], Y2.out⟩
      case measure => simp [intOf]; omega
    · have ek : m = k := by omega
      subst ek
      have Sb := sumN_bd HD.out x m
      have FF : Hid (fullF d x = if q then roundI (sumN d x m * (100 + b)) 100 else sumN d x m) := by show _ = _; rw [← BN.out, ← hq.out, ← hm.out]; rfl
      have bb := HD.out.bon
      rw [BN.out] at bb
      generalize sumN d x m = Sk at *
      have h0 : 0 ≤ Sk * (100 + b) := Int.mul_nonneg (by omega) (by omega)
      have h1 : Sk * (100 + b) ≤ Sk * 120 := Int.mul_le_mul_of_nonneg_left (by omega) (by omega)
      have h2 : Sk * (100 + b) ≤ 1000000 := by omega
      clear h1
      have cB := (B0.out.ext HX.out).cell; have cI := (B1.out.ext HX.out).cell
      cases q
      · go_wp2
        go_ret
        exact ⟨ret_int (by rw [FF.out]; rfl), X0.out.trans HX.out⟩
      · go_wp2_with (go_at_call 109; refine (s.poRound_any _ _ _ (by omega) (by omega) (by omega) (by omega)).mono ?_; rintro e w3 ⟨rfl, rfl⟩)
        go_ret
        exact ⟨ret_int (by rw [FF.out]; rfl), X0.out.trans HX.out⟩

theorem small_of {zs : List Int} (h : ∀ z ∈ zs, 0 ≤ z ∧ z ≤ 2000) : Small zs := fun z hz => by have := h z hz; omega
set_option maxRecDepth 100000 in
set_option maxHeartbeats 1000000 in
theorem i.fullBase_m (w : World) (v : Value) (d : CoD) (vs : List Value) (x : ItD) (h : kC.rd w v d) (hok : kC.ok d) (hd : CodeOk d) (hx : kdItem.rd w w.heap.size vs x) (hi : ItOk d x) :
    Calls Try.prog 80 #[v, kdItem.val vs] w fun e w' => e = .returned (.int .i64 (fullF d x)) ∧ Ext w w' := by
  have IX := hide (fun (wq : World) (xq : Ext w wq) => i.worths_m wq v d vs x (kC.rd_ext h xq) hok hd (kdItem.rd_more (kdItem.rd_ext hx xq (Nat.le_refl _)) xq.size) hi)
  obtain ⟨Ac, cc, Al, cl, rfl, hle, _⟩ := kC.lr h
  have HR := hide h
  have HLE := hide hle
  obtain ⟨nc, NC⟩ : ∃ z, Hid (d.1.length = z) := ⟨_, rfl⟩
  obtain ⟨nl, NL⟩ : ∃ z, Hid (d.2.1.length = z) := ⟨_, rfl⟩
  obtain ⟨r, RN⟩ : ∃ z, Hid (d.2.2.1 = z) := ⟨_, rfl⟩
  obtain ⟨b, BN⟩ : ∃ z, Hid (d.2.2.2.1 = z) := ⟨_, rfl⟩
  obtain ⟨p, PN⟩ : ∃ z, Hid (d.2.2.2.2.1 = z) := ⟨_, rfl⟩
  obtain ⟨f, FN⟩ : ∃ z, Hid (d.2.2.2.2.2 = z) := ⟨_, rfl⟩
  rw [NC.out, NL.out, RN.out, BN.out, PN.out, FN.out] at HR IX ⊢
  clear hle
  obtain ⟨A1, c1, A2, c2, rfl, h1, h2⟩ := kdItem.open_ hx
  rw [kdItem.val3] at IX ⊢
  have H1 := hide h1
  have H2 := hide h2
  have a1 := h1.1; have a2 := h1.2.1; have a3 := h2.1; have a4 := h2.2.1
  have i1 := hi.n1; have i3 := hi.n3
  have ML := hide hi.ml
  have HI := hide hi
  have HD := hide hd
  clear h hx h1 h2 hi hd
  rw [ML.out] at a3 IX ⊢
  obtain ⟨m, hm⟩ : ∃ m, Hid (x.1.length = m) := ⟨_, rfl⟩
  rw [hm.out] at a1 a3 i1 i3 IX ⊢
  obtain ⟨q, hq⟩ : ∃ q, Hid (x.2.2 = q) := ⟨_, rfl⟩
  rw [hq.out] at IX ⊢
  obtain ⟨W0, hW0⟩ : ∃ W0, Hid (W0 = (w.alloc (.cells #[.slice Ac nc cc, .slice Al nl cl, .int .i64 r, .int .i64 b, .int .i64 p, .int .i64 f] 31)).alloc (.cells #[.slice A1 m c1, .slice A2 m c2, .bool q] 59)) := ⟨_, rfl⟩
  have X0 : Hid (Ext w W0) := by rw [hW0.out]; exact (Ext.alloc w _).trans (Ext.alloc _ _)
  have B0 : Hid (Blk W0 w.heap.size #[.slice Ac nc cc, .slice Al nl cl, .int .i64 r, .int .i64 b, .int .i64 p, .int .i64 f] 31) := by rw [hW0.out]; exact (Blk.new rfl _ _).alloc _
  have B1 : Hid (Blk W0 (w.heap.size + 1) #[.slice A1 m c1, .slice A2 m c2, .bool q] 59) := by rw [hW0.out]; exact Blk.new (by simp) _ _
  have zW := X0.out.size
  have Sb := sumN_bd HD.out x m
  have SS : Hid ((worthsF d x).sum = sumN d x m) := by show _ = _; rw [← hm.out]; rfl
  have SM := small_of (worthsN_bd HD.out x x.1.length)
  have FF : Hid (fullF d x = if q then roundI (sumN d x m * (100 + b)) 100 else sumN d x m) := by show _ = _; rw [← BN.out, ← hq.out, ← hm.out]; rfl
  have bb := HD.out.bon
  rw [BN.out] at bb
  rw [FF.out]
  have WL : Hid ((worthsF d x).length = m) := by show _ = _; rw [← hm.out]; exact worthsN_len _ _ _
  generalize sumN d x m = Sk at *
  have h0 : 0 ≤ Sk * (100 + b) := Int.mul_nonneg (by omega) (by omega)
  have h1 : Sk * (100 + b) ≤ Sk * 120 := Int.mul_le_mul_of_nonneg_left (by omega) (by omega)
  have h2 : Sk * (100 + b) ≤ 1000000 := by omega
  clear h1
  go_enter Try.func80, Try.ntmps80
  go_wp2_with fail
  rw [← hW0.out]
  clear hW0
  refine (IX.out W0 X0.out).mono ?_
  rintro e w1 ⟨A9, c9, rfl, o1, x1⟩
  have SL := o1.sl
  have X1 := hide (X0.out.trans x1)
  have cB := (B0.out.ext x1).cell; have cI := (B1.out.ext x1).cell
  have SUM := i.sumInts_any A9 m c9 w1.heap.size _ w1 SL (by omega) (show Small (worthsF d x) from SM)
  rw [SS.out] at SUM
  have SUMH := hide SUM
  clear SUM SL o1 x1 IX SM
  cases q
  · go_wp2_with (go_at_call 41; refine SUMH.out.mono ?_; rintro e w3 ⟨rfl, rfl⟩)
    go_ret
    exact ⟨rfl, X1.out⟩
  · go_wp2_with (first | (go_at_call 41; refine SUMH.out.mono ?_; rintro e w3 ⟨rfl, rfl⟩) | (go_at_call 100; refine (i.roundDiv_any _ _ _ (by omega) (by omega) (by omega) (by omega)).mono ?_; rintro e w3 ⟨rfl, rfl⟩))
    go_ret
    exact ⟨rfl, X1.out⟩

end Go.Proofs.Ytcnpbaldnhfebaa

/- Items as a kind; known items; UnitOf. -/
namespace Go.Proofs.Ytcnpbaldnhfebaa
open Go.RowKit Go.Sort
set_option linter.unusedVariables false

def kIm : Kind ItD where
  rd w v d := ∃ vs, v = kdItem.val vs ∧ kdItem.rd w w.heap.size vs d
  fr w lo hi v d := ∃ vs fp, v = kdItem.val vs ∧ kdItem.own w vs d fp ∧ (∀ i ∈ fp, lo ≤ i ∧ i < hi)
  ok d := kdItem.wt d ≤ 1048576
  mrk _ d := d
  cnt _ := 0
  rd_ext := by
    rintro w w' v d ⟨vs, rfl, h⟩ hx
    exact ⟨vs, rfl, kdItem.rd_more (kdItem.rd_ext h hx (Nat.le_refl _)) hx.size⟩
  fr_rd := by
    rintro w lo hi v d ⟨vs, fp, rfl, h, _⟩
    exact ⟨vs, rfl, kdItem.own_rd h⟩
  fr_tch := by
    rintro w w' lo hi lo' hi' v d ⟨vs, fp, rfl, h, hf⟩ k hd
    refine ⟨vs, fp, rfl, kdItem.own_keep h (fun i hi' => k.block i (kdItem.own_lt h i hi') ?_), hf⟩
    have := hf i hi'
    omega
  ok_cnt := fun _ => Nat.zero_le _
def kIm.wt (d : ItD) : Nat := kdItem.wt d
theorem kIm.ok_of {d : ItD} (h : ¬ 1048576 < kIm.wt d) : kIm.ok d := Nat.le_of_not_lt h
theorem kIm.lr {w : World} {v : Value} {d : ItD} (h : kIm.rd w v d) : ∃ A c A' c', v = .agg #[.slice A d.1.length c, .slice A' d.2.1.length c', .bool d.2.2] ∧ LR kdS w w.heap.size A c d.1 ∧ LR kdInt w w.heap.size A' c' d.2.1 := by
  obtain ⟨vs, rfl, h⟩ := h
  obtain ⟨A, c, A', c', rfl, h1⟩ := kdItem.open_ h
  exact ⟨A, c, A', c', rfl, h1⟩
theorem kIm.shape {w : World} {v : Value} {d : ItD} (h : kIm.rd w v d) : ∃ A n c A' n' c' q, v = .agg #[.slice A n c, .slice A' n' c', .bool q] := by
  obtain ⟨A, c, A', c', rfl, _⟩ := kIm.lr h
  exact ⟨A, _, c, A', _, c', _, rfl⟩
theorem kIm.eq : EqC Try.prog kIm 37 := by
  rintro w v v' d ⟨vs, rfl, h⟩ ⟨vs', rfl, h'⟩ hn
  exact kdItem.eq_ _ _ _ d h h' hn
theorem LR.oneI {w : World} {B : Nat} {x : ItD} {A1 A2 : Option Addr} {c1 c2 : Nat} (h1 : LR kdS w B A1 c1 x.1) (h2 : LR kdInt w B A2 c2 x.2.1) (hB : B ≤ w.heap.size) (e : TypeId) :
    LR kdItem (w.alloc (.cells #[.slice A1 x.1.length c1, .slice A2 x.2.1.length c2, .bool x.2.2] e)) (w.heap.size + 1) (some ⟨w.heap.size, 0, none⟩) 1 [x] := by
  refine ⟨Nat.le_refl _, by omega, fun k y hk => ?_⟩
  cases k with
  | succ k => simp at hk
  | zero =>
    simp at hk
    subst hk
    have X := Ext.alloc w (.cells #[.slice A1 x.1.length c1, .slice A2 x.2.1.length c2, .bool x.2.2] e)
    refine ⟨w.heap.size, 0, [.slice A1 x.1.length c1, .slice A2 x.2.1.length c2, .bool x.2.2], rfl, by omega, kdItem.mk_ ((h1.ext X hB).more (by omega)) ((h2.ext X hB).more (by omega)), ?_⟩
    intro j u hj
    rcases j with _ | _ | _ | j
    · simp at hj; subst hj; simp [World.cell?_alloc_at]
    · simp at hj; subst hj; simp [World.cell?_alloc_at]
    · simp at hj; subst hj; simp [World.cell?_alloc_at]
    · simp at hj
theorem items_one (x : ItD) : itemsB [x] = itemB x := by simp [itemsB]
theorem known_one (els : List ElD) (x : ItD) : knownB els [x] = knownI els x := by simp [knownB]
def unitLaw (d : CoD) (x : ItD) : Int × Bool := if codeB d && itemB x && knownI d.1 x then (unitF d x, true) else (0, false)


end Go.Proofs.Ytcnpbaldnhfebaa

/- Lists of items, codes: weighed with what is left. -/
namespace Go.Proofs.Ytcnpbaldnhfebaa
open Go.RowKit Go.Sort
set_option linter.unusedVariables false

def kIt.wt (d : List ItD) : Nat := kdItS.wt d
theorem kIt.ok_of {d : List ItD} (h : ¬ 1048576 < kIt.wt d) : kIt.ok d := Nat.le_of_not_lt h
theorem kIt.lr {w : World} {v : Value} {d : List ItD} (h : kIt.rd w v d) : ∃ A c, v = .slice A d.length c ∧ LR kdItem w w.heap.size A c d := by
  obtain ⟨vs, rfl, ⟨A, c, rfl, h⟩⟩ := h
  exact ⟨A, c, rfl, h⟩
end Go.Proofs.Ytcnpbaldnhfebaa
