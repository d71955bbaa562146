/- Reviews, and lists of them. -/
import Derived.Test.YtmckompikbechaaNC
namespace Go.Proofs.Ytmckompikbechaa
open Go.RowKit Go.Sort
set_option linter.unusedVariables false

theorem kdRv.open_ {w : World} {B : Nat} {vs : List Value} {d : RvD} (h : kdRv.rd w B vs d) : vs = [.int .i64 d.1, .int .i64 d.2.1, .int .i64 d.2.2] := by
  obtain ⟨v1, v2, rfl, h1, v3, v4, rfl, h2, h3⟩ := h
  have h1 : v1 = [.int .i64 d.1] := h1
  have h2 : v3 = [.int .i64 d.2.1] := h2
  have h3 : v4 = [.int .i64 d.2.2] := h3
  subst h1 h2 h3
  rfl
theorem kdRv.mk_ (w : World) (B : Nat) (d : RvD) : kdRv.rd w B [.int .i64 d.1, .int .i64 d.2.1, .int .i64 d.2.2] d :=
  ⟨[.int .i64 d.1], [.int .i64 d.2.1, .int .i64 d.2.2], rfl, rfl, [.int .i64 d.2.1], [.int .i64 d.2.2], rfl, rfl, rfl⟩
theorem kdRv.mkOwn (w : World) (d : RvD) : kdRv.own w [.int .i64 d.1, .int .i64 d.2.1, .int .i64 d.2.2] d [] :=
  ⟨[.int .i64 d.1], [.int .i64 d.2.1, .int .i64 d.2.2], [], [], rfl, ⟨rfl, rfl⟩, ⟨[.int .i64 d.2.1], [.int .i64 d.2.2], [], [], rfl, ⟨rfl, rfl⟩, ⟨rfl, rfl⟩, rfl, by simp⟩, rfl, by simp⟩
theorem kdRv.val3 (a b c : Value) : kdRv.val [a, b, c] = .agg #[a, b, c] := rfl
def kdRvS : Kd (List RvD) := kdList 47 kdRv
def noReview : RvD := (0, 0, 0)
theorem info_review : (Try.prog.info? 47).map (fun i => (i.zero, i.size, i.bytes)) = some (some (.agg #[.int .i64 0, .int .i64 0, .int .i64 0]), 3, 24) := by kernel_rfl
theorem kdRv.zero (w : World) : kdRv.own w [.int .i64 0, .int .i64 0, .int .i64 0] noReview [] := kdRv.mkOwn w noReview
theorem LR.review {w : World} {B c : Nat} {A : Option Addr} {xs : List RvD} (h : LR kdRv w B A c xs) (k : Nat) (x : RvD) (hx : xs[k]? = some x) : ∃ b off, A = some ⟨b, off, none⟩ ∧ b < B ∧ w.cell? ⟨b, off + k * 3, none⟩ = some (.int .i64 x.1) ∧ w.cell? ⟨b, off + k * 3 + 1, none⟩ = some (.int .i64 x.2.1) ∧ w.cell? ⟨b, off + k * 3 + 2, none⟩ = some (.int .i64 x.2.2) := by
  obtain ⟨b, off, cs, rfl, hb, hr, hc⟩ := h.2.2 k x hx
  obtain rfl := kdRv.open_ hr
  exact ⟨b, off, rfl, hb, hc 0 _ rfl, hc 1 _ rfl, hc 2 _ rfl⟩

set_option maxHeartbeats 1000000 in
theorem kdRv.to_ : ToD Try.prog kdRv 27 := by
  rintro w vs ⟨x, y, z⟩ h hwt
  obtain rfl := kdRv.open_ h
  clear h
  show Calls _ _ #[.agg #[.int .i64 x, .int .i64 y, .int .i64 z]] _ _
  obtain ⟨W0, hW0⟩ : ∃ W0, Hid (W0 = ((w.alloc (.cells #[.int .i64 x, .int .i64 y, .int .i64 z] 45)).alloc (.cells #[.int .i64 0, .int .i64 0, .int .i64 0] 47)).alloc (.cells #[.int .i64 0, .int .i64 0, .int .i64 0] 47)) := ⟨_, rfl⟩
  have X0 : Hid (Ext w W0) := by rw [hW0.out]; exact ((Ext.alloc w _).trans (Ext.alloc _ _)).trans (Ext.alloc _ _)
  go_enter Try.func27, Try.ntmps27
  go_wp2
  refine bodyPost_ret (v := .agg #[.int .i64 x, .int .i64 y, .int .i64 z]) (by simp [results, Try.results27, go_sem, World.cell?_alloc_at]) rfl ?_
  refine ⟨[.int .i64 x, .int .i64 y, .int .i64 z], [], rfl, kdRv.mkOwn _ (x, y, z), by simp, ?_⟩
  repeat (refine Below.setCell ?_ (by simp <;> omega) _)
  exact ((Ext.alloc w _).trans (Ext.alloc _ _)).trans (Ext.alloc _ _)

set_option maxHeartbeats 1000000 in
theorem kdRv.eq_ : EqD Try.prog kdRv 120 := by
  rintro w vs vs' ⟨x, y, z⟩ h h' hwt
  obtain rfl := kdRv.open_ h
  obtain rfl := kdRv.open_ h'
  clear h h'
  show Calls _ _ #[.agg #[.int .i64 x, .int .i64 y, .int .i64 z], .agg #[.int .i64 x, .int .i64 y, .int .i64 z]] _ _
  have e1 : (x != x) = false := by simp
  have e2 : (y != y) = false := by simp
  have e3 : (z != z) = false := by simp
  go_enter Try.func120, Try.ntmps120
  go_wp2
  go_ret
  exact ⟨rfl, (Ext.alloc w _).trans (Ext.alloc _ _)⟩

set_option maxHeartbeats 2000000 in
theorem kdRvS.to_ : ToD Try.prog kdRvS 72 := by
  rintro w vs d ⟨A, c, rfl, h⟩ hn
  have hwt : wtL kdRv d ≤ 1048576 := hn
  have hlen := wtL_len kdRv d
  obtain ⟨i0, hi, hz0, hz1, hz2⟩ := info_parts info_review
  have HD := hide h
  clear h hn
  show Calls _ _ #[.slice A d.length c] _ _
  obtain ⟨n, hnd⟩ : ∃ n, Hid (d.length = n) := ⟨_, rfl⟩
  rw [hnd.out] at hlen ⊢
  have hn : n ≤ 1048576 := by omega
  have HW := hide hwt
  clear hwt hlen
  go_enter Try.func72, Try.ntmps72
  go_wp2_with (at_make; refine wpList_make_full _ rfl _ _ _ rfl 0 47 i0 _ 3 Try.underlying26 hi hz0 hz1 _ _ _ _ n rfl rfl rfl rfl ?c1 ?c2 ?c3 ?_)
  case c1 => rw [hz2]; omega
  case c2 => unfold maxLen; omega
  case c3 => exact Nat.zero_le _
  intro w1 hown hgrow
  have hb1 : Ext w w1 := (Below.refl _ _).grown hgrow (Nat.le_refl _) (by simp)
  have HL1 : Hid (LO kdRv 47 w1 (some ⟨w.heap.size, 0, none⟩) n (List.replicate n noReview) [w.heap.size]) := by
    refine LO.made (zc := [.int .i64 0, .int .i64 0, .int .i64 0]) ?_ kdRv.zero
    have h8 := made_flat #[.int .i64 0, .int .i64 0, .int .i64 0] n
    rw [← show (#[.int .i64 0, .int .i64 0, .int .i64 0] : Array Value).toList = [.int .i64 0, .int .i64 0, .int .i64 0] from rfl, ← h8]
    exact hown
  have HX1 := hide hb1
  clear hown hgrow hb1
  go_wp2
  go_loopw [4] (fun i wr => ∃ (k : Nat) (fp : List Nat), k ≤ n ∧ i = .int .i64 k ∧ LO kdRv 47 wr (some ⟨w.heap.size, 0, none⟩) n (partG noReview d k) fp ∧ (∀ i ∈ fp, w.heap.size ≤ i) ∧ Ext w wr) (fun i _ => n - (intOf i).toNat)
  case atStart => exact ⟨0, [w.heap.size], Nat.zero_le _, rfl, by rw [partG_zero, hnd.out]; exact HL1.out, by simp, HX1.out⟩
  case round =>
    obtain ⟨k, fp, hk, rfl, hlo, hfp, hx⟩ := hrel
    have HLO := hide hlo
    have HFP := hide hfp
    have HX := hide hx
    clear hlo hfp hx
    by_cases hlt : k < n
    · obtain ⟨x, hxk⟩ : ∃ x, Hid (d[k]? = some x) := ⟨_, List.getElem?_eq_getElem (by rw [hnd.out]; exact hlt)⟩
      obtain ⟨b, off, rfl, hb, q0, q1, q2⟩ := (HD.out.ext HX.out (Nat.le_refl _)).review k x hxk.out
      have RX := hide (kdRv.mk_ wr wr.heap.size x)
      go_wp2_with fail
      refine (kdRv.to_ wr _ x RX.out (Nat.le_trans (wtL_at kdRv d k x hxk.out) HW.out)).mono ?_
      rintro e w2 ⟨vs', fp', rfl, ho', hfp', hx'⟩
      obtain rfl := kdRv.open_ (kdRv.own_rd ho')
      have HO' := hide ho'
      have HX2 := hide hx'
      obtain ⟨g, cs0, f, hat⟩ := (HLO.out.ext hx').at_ k noReview (partG_at noReview d k (by rw [hnd.out]; exact hlt))
      obtain rfl : g = w.heap.size := by have := hat.addr; simpa using this.symm
      obtain rfl := kdRv.open_ (kdRv.own_rd hat.own)
      have d0 := hat.cell 0 _ rfl
      have d1 := hat.cell 1 _ rfl
      have d2 := hat.cell 2 _ rfl
      rw [show k * kdRv.size + 0 = k * 3 from rfl] at d0
      rw [show k * kdRv.size + 1 = k * 3 + 1 from rfl] at d1
      rw [show k * kdRv.size + 2 = k * 3 + 2 from rfl] at d2
      have hfd := hat.free
      have HAT := hide hat
      have HFP' := hide hfp'
      clear hat hx' hfp' ho'
      rw [kdRv.val3]
      go_wp2
      go_roundw
      case rel =>
        obtain ⟨fp2, hl2, hs2⟩ := HAT.out.store w2 _ x fp' HO'.out (TchF.refl _ _) (fun i hi => .inr (fun hm => by have h1 := HFP'.out i hi; have h2 := HLO.out.lt i hm; omega))
        rw [partG_set noReview d k (by rw [hnd.out]; exact hlt) x hxk.out] at hl2
        refine ⟨k + 1, fp2, by omega, by go_num, hl2, fun i hi => ?_, Below.setCell (Below.setCell (Below.setCell (HX.out.trans HX2.out) (Nat.le_refl _) _) (Nat.le_refl _) _) (Nat.le_refl _) _⟩
        rcases hs2 i hi with h1 | h1
        · exact HFP.out i h1
        · exact Nat.le_trans HX.out.size (HFP'.out i h1)
      case measure => simp [intOf]; omega
    · go_wp2
      go_ret
      refine ⟨[.slice (some ⟨w.heap.size, 0, none⟩) n n], fp, rfl, ⟨_, _, by rw [hnd.out], ?_⟩, HFP.out, HX.out⟩
      have := HLO.out
      rwa [partG_all noReview d k (by rw [hnd.out]; exact hlt)] at this

set_option maxHeartbeats 2000000 in
theorem kdRvS.eq_ : EqD Try.prog kdRvS 58 := by
  rintro w vs vs' d ⟨A, c, rfl, h⟩ ⟨A', c', rfl, h'⟩ hn
  have hwt : wtL kdRv d ≤ 1048576 := hn
  have hlen := wtL_len kdRv d
  have HD := hide h
  have HD' := hide h'
  clear h h' hn
  show Calls _ _ #[.slice A d.length c, .slice A' d.length c'] _ _
  obtain ⟨n, hnd⟩ : ∃ n, Hid (d.length = n) := ⟨_, rfl⟩
  rw [hnd.out] at hlen ⊢
  have hn : n ≤ 1048576 := by omega
  have HW := hide hwt
  clear hwt hlen
  have hne : ((n : Int) != (n : Int)) = false := by simp
  go_enter Try.func58, Try.ntmps58
  go_wp2
  go_loopw [5] (fun i wr => ∃ (k : Nat), k ≤ n ∧ i = .int .i64 k ∧ Ext w wr) (fun i _ => n - (intOf i).toNat)
  case atStart => exact ⟨0, Nat.zero_le _, rfl, Ext.refl _⟩
  case round =>
    obtain ⟨k, hk, rfl, hx⟩ := hrel
    have HX := hide hx
    clear hx
    by_cases hlt : k < n
    · obtain ⟨x, hxk⟩ : ∃ x, Hid (d[k]? = some x) := ⟨_, List.getElem?_eq_getElem (by rw [hnd.out]; exact hlt)⟩
      obtain ⟨b, off, rfl, hb, q0, q1, q2⟩ := (HD.out.ext HX.out (Nat.le_refl _)).review k x hxk.out
      obtain ⟨b', off', rfl, hb', q3, q4, q5⟩ := (HD'.out.ext HX.out (Nat.le_refl _)).review k x hxk.out
      have hrd := kdRv.mk_ wr wr.heap.size x
      have hrd' := kdRv.mk_ wr wr.heap.size x
      have u0 := fun dd os => cell_regrown q0 dd os
      have u1 := fun dd os => cell_regrown q1 dd os
      have u2 := fun dd os => cell_regrown q2 dd os
      have u3 := fun dd os => cell_regrown q3 dd os
      have u4 := fun dd os => cell_regrown q4 dd os
      have u5 := fun dd os => cell_regrown q5 dd os
      have HC := hide (fun dd os => ext_regrown (kdRv.eq_ (grow (redrawn wr dd) os) _ _ x (kdRv.rd_more (kdRv.rd_ext hrd (ext_re wr dd os) (Nat.le_refl _)) (ext_re wr dd os).size) (kdRv.rd_more (kdRv.rd_ext hrd' (ext_re wr dd os) (Nat.le_refl _)) (ext_re wr dd os).size) (Nat.le_trans (wtL_at kdRv d k x hxk.out) HW.out)))
      have i1 : (k : Int) < n := by omega
      clear hrd hrd'
      go_wp2
      refine wp_region_quiet_below (by kernel_rfl) (by kernel_rfl) ?_
      repeat (quiet_step (exact HC.out _ _))
      refine wpQuiet_nil ?_
      intro _ hw'
      obtain ⟨⟨dq, osq⟩, hw''⟩ := hw'
      subst hw''
      have HX2 := hide (HX.out.trans (ext_re wr dq osq))
      clear u0 u1 u2 u3 u4 u5
      generalize grow (redrawn wr dq) osq = w2 at *
      go_wp2
      go_roundw
      case rel => exact ⟨k + 1, by omega, by go_num, HX2.out⟩
      case measure => simp [intOf]; omega
    · go_wp2
      go_ret
      exact ⟨rfl, HX.out⟩

theorem wtL_rv (xs : List RvD) : wtL kdRv xs = xs.length := by
  induction xs with
  | nil => rfl
  | cons z t ih => show 1 + 0 + wtL kdRv t = t.length + 1; omega
theorem kdRvS.sz : SzD Try.prog kdRvS 66 := by
  rintro w vs d l ⟨A, c, rfl, h⟩ hl0 hl1
  have hw : (kdRvS.wt d : Int) = d.length := by have := wtL_rv d; show ((wtL kdRv d : Nat) : Int) = _; omega
  have hcap := h.1
  have hcm := h.2.1
  rw [hw]
  show Calls _ _ #[.slice A d.length c, .int .i64 l] _ _
  by_cases hle : (d.length : Int) ≤ l
  · rw [if_pos hle]
    go_enter Try.func66, Try.ntmps66
    go_wp2
    go_ret
    exact ⟨rfl, Ext.refl _⟩
  · rw [if_neg hle]
    go_enter Try.func66, Try.ntmps66
    go_wp2
    go_ret
    exact ⟨rfl, Ext.refl _⟩
end Go.Proofs.Ytmckompikbechaa
