/- Lists of lists of lists of numbers. -/
import Derived.Test.YtmckompikbechaaKH
namespace Go.Proofs.Ytmckompikbechaa
open Go.RowKit Go.Sort
set_option linter.unusedVariables false

def kdLLL : Kd (List (List (List Int))) := kdList 84 kdLL
theorem info_rows : (Try.prog.info? 84).map (fun i => (i.zero, i.size, i.bytes)) = some (some (.slice none 0 0), 1, 24) := by kernel_rfl
theorem kdLL.zero (w : World) : kdLL.own w [.slice none 0 0] [] [] := ⟨none, 0, rfl, LO.none_⟩
theorem kdLLL.val1 (v : Value) : kdLLL.val [v] = v := rfl

set_option maxHeartbeats 1000000 in
theorem kdLLL.to_ : ToD Try.prog kdLLL 71 := by
  rintro w vs d ⟨A, c, rfl, h⟩ hn
  have hwt : wtL kdLL d ≤ 1048576 := hn
  have hlen := wtL_len kdLL d
  obtain ⟨i0, hi, hz0, hz1, hz2⟩ := info_parts info_rows
  have HD := hide h
  clear h hn
  show Calls _ _ #[.slice A d.length c] _ _
  obtain ⟨n, hnd⟩ : ∃ n, Hid (d.length = n) := ⟨_, rfl⟩
  rw [hnd.out] at hlen ⊢
  have hn : n ≤ 1048576 := by omega
  have HW := hide hwt
  clear hwt hlen
  go_enter Try.func71, Try.ntmps71
  go_wp2_with (at_make; refine wpList_make_full _ rfl _ _ _ rfl 0 84 i0 _ 1 Try.underlying25 hi hz0 hz1 _ _ _ _ n rfl rfl rfl rfl ?c1 ?c2 ?c3 ?_)
  case c1 => rw [hz2]; omega
  case c2 => unfold maxLen; omega
  case c3 => exact Nat.zero_le _
  intro w1 hown hgrow
  have hb1 : Ext w w1 := (Below.refl _ _).grown hgrow (Nat.le_refl _) (by simp)
  have HL1 : Hid (LO kdLL 84 w1 (some ⟨w.heap.size, 0, none⟩) n (List.replicate n []) [w.heap.size]) := by
    refine LO.made (zc := [.slice none 0 0]) ?_ kdLL.zero
    rw [flat_repl]
    rwa [toList_madeCells_one] at hown
  have HX1 := hide hb1
  clear hown hgrow hb1
  go_wp2
  go_loopw [4] (fun i wr => ∃ (k : Nat) (fp : List Nat), k ≤ n ∧ i = .int .i64 k ∧ LO kdLL 84 wr (some ⟨w.heap.size, 0, none⟩) n (partG [] d k) fp ∧ (∀ i ∈ fp, w.heap.size ≤ i) ∧ Ext w wr) (fun i _ => n - (intOf i).toNat)
  case atStart => exact ⟨0, [w.heap.size], Nat.zero_le _, rfl, by rw [partG_zero, hnd.out]; exact HL1.out, by simp, HX1.out⟩
  case round =>
    obtain ⟨k, fp, hk, rfl, hlo, hfp, hx⟩ := hrel
    have HLO := hide hlo
    have HFP := hide hfp
    have HX := hide hx
    clear hlo hfp hx
    by_cases hlt : k < n
    · obtain ⟨x, hxk⟩ : ∃ x, Hid (d[k]? = some x) := ⟨_, List.getElem?_eq_getElem (by rw [hnd.out]; exact hlt)⟩
      obtain ⟨b, off, cs, rfl, hb, ⟨Ak, ck, rfl, hrk⟩, hc⟩ := (HD.out.ext HX.out (Nat.le_refl _)).2.2 k x hxk.out
      have hck : wr.cell? ⟨b, off + k, none⟩ = some (.slice Ak x.length ck) := by
        have := hc 0 _ rfl
        rwa [show k * kdLL.size + 0 = k from by show k * 1 + 0 = k; omega] at this
      have HRK := hide hrk
      clear hc hrk
      go_wp2_with fail
      refine (kdLL.to_ wr [.slice Ak x.length ck] x ⟨Ak, ck, rfl, HRK.out.more HX.out.size⟩ (Nat.le_trans (wtL_at kdLL d k x hxk.out) HW.out)).mono ?_
      rintro e w2 ⟨vs', fp', rfl, ho', hfp', hx'⟩
      obtain ⟨A', c', rfl, hlo'⟩ := ho'
      have HO' : Hid (kdLL.own w2 [.slice A' x.length c'] x fp') := ⟨A', c', rfl, hlo'⟩
      have HX2 := hide hx'
      obtain ⟨g, cs0, f, hat⟩ := (HLO.out.ext hx').at_ k [] (partG_at [] d k (by rw [hnd.out]; exact hlt))
      obtain rfl : g = w.heap.size := by have := hat.addr; simpa using this.symm
      obtain ⟨A0, c0, hcs0, hlo0⟩ := hat.own
      subst hcs0
      have hcd : w2.cell? ⟨w.heap.size, k, none⟩ = some (.slice A0 ([] : List (List Int)).length c0) := by
        have := hat.cell 0 _ rfl
        rwa [show k * kdLL.size + 0 = k from by show k * 1 + 0 = k; omega] at this
      have hfd := hat.free k
      have HAT := hide hat
      have HFP' := hide hfp'
      clear hat hlo' hlo0 hx' hfp'
      rw [kdLL.val1]
      go_wp2
      go_roundw
      case rel =>
        obtain ⟨fp2, hl2, hs2⟩ := HAT.out.store w2 _ x fp' HO'.out (TchF.refl _ _) (fun i hi => .inr (fun hm => by have h1 := HFP'.out i hi; have h2 := HLO.out.lt i hm; omega))
        rw [one_cells _ _ _ _ kdLL.size rfl, partG_set [] d k (by rw [hnd.out]; exact hlt) x hxk.out] at hl2
        refine ⟨k + 1, fp2, by omega, by go_num, hl2, fun i hi => ?_, Below.setCell (HX.out.trans HX2.out) (Nat.le_refl _) _⟩
        rcases hs2 i hi with h1 | h1
        · exact HFP.out i h1
        · exact Nat.le_trans HX.out.size (HFP'.out i h1)
      case measure => simp [intOf]; omega
    · go_wp2
      go_ret
      refine ⟨[.slice (some ⟨w.heap.size, 0, none⟩) n n], fp, rfl, ⟨_, _, by rw [hnd.out], ?_⟩, HFP.out, HX.out⟩
      have := HLO.out
      rwa [partG_all [] d k (by rw [hnd.out]; exact hlt)] at this
set_option maxHeartbeats 1000000 in
theorem kdLLL.eq_ : EqD Try.prog kdLLL 57 := by
  rintro w vs vs' d ⟨A, c, rfl, h⟩ ⟨A', c', rfl, h'⟩ hn
  have hwt : wtL kdLL d ≤ 1048576 := hn
  have hlen := wtL_len kdLL d
  have HD := hide h
  have HD' := hide h'
  clear h h' hn
  show Calls _ _ #[.slice A d.length c, .slice A' d.length c'] _ _
  obtain ⟨n, hnd⟩ : ∃ n, Hid (d.length = n) := ⟨_, rfl⟩
  rw [hnd.out] at hlen ⊢
  have hn : n ≤ 1048576 := by omega
  have HW := hide hwt
  clear hwt hlen
  have hne : ((n : Int) != (n : Int)) = false := by simp
  go_enter Try.func57, Try.ntmps57
  go_wp2
  go_loopw [5] (fun i wr => ∃ (k : Nat), k ≤ n ∧ i = .int .i64 k ∧ Ext w wr) (fun i _ => n - (intOf i).toNat)
  case atStart => exact ⟨0, Nat.zero_le _, rfl, Ext.refl _⟩
  case round =>
    obtain ⟨k, hk, rfl, hx⟩ := hrel
    have HX := hide hx
    clear hx
    by_cases hlt : k < n
    · obtain ⟨x, hxk⟩ : ∃ x, Hid (d[k]? = some x) := ⟨_, List.getElem?_eq_getElem (by rw [hnd.out]; exact hlt)⟩
      obtain ⟨b, off, cs, rfl, hb, ⟨Ak, ck, rfl, hrk⟩, hc⟩ := (HD.out.ext HX.out (Nat.le_refl _)).2.2 k x hxk.out
      obtain ⟨b', off', cs', rfl, hb', ⟨Ak', ck', rfl, hrk'⟩, hc'⟩ := (HD'.out.ext HX.out (Nat.le_refl _)).2.2 k x hxk.out
      have hck : wr.cell? ⟨b, off + k, none⟩ = some (.slice Ak x.length ck) := by
        have := hc 0 _ rfl
        rwa [show k * kdLL.size + 0 = k from by show k * 1 + 0 = k; omega] at this
      have hck' : wr.cell? ⟨b', off' + k, none⟩ = some (.slice Ak' x.length ck') := by
        have := hc' 0 _ rfl
        rwa [show k * kdLL.size + 0 = k from by show k * 1 + 0 = k; omega] at this
      have q1 := fun dd os => cell_regrown hck dd os
      have q2 := fun dd os => cell_regrown hck' dd os
      have hrd : kdLL.rd wr wr.heap.size [.slice Ak x.length ck] x := ⟨Ak, ck, rfl, hrk.more HX.out.size⟩
      have hrd' : kdLL.rd wr wr.heap.size [.slice Ak' x.length ck'] x := ⟨Ak', ck', rfl, hrk'.more HX.out.size⟩
      have hwx := Nat.le_trans (wtL_at kdLL d k x hxk.out) HW.out
      have hcall : ∀ dd os, Calls Try.prog 119 #[.slice Ak x.length ck, .slice Ak' x.length ck'] (grow (redrawn wr dd) os) fun e w'' => e = .returned (.bool true) ∧ ∃ p : Regrown, w'' = grow (redrawn wr p.d) p.os :=
        fun dd os => ext_regrown (kdLL.eq_ _ [.slice Ak x.length ck] [.slice Ak' x.length ck'] x (kdLL.rd_more (kdLL.rd_ext hrd (ext_re wr dd os) (Nat.le_refl _)) (ext_re wr dd os).size) (kdLL.rd_more (kdLL.rd_ext hrd' (ext_re wr dd os) (Nat.le_refl _)) (ext_re wr dd os).size) hwx)
      have HC := hide hcall
      have i1 : (k : Int) < n := by omega
      clear hc hrk hc' hrk' hcall hrd hrd' hwx
      go_wp2
      refine wp_region_quiet_below (by kernel_rfl) (by kernel_rfl) ?_
      repeat (quiet_step (exact HC.out _ _))
      refine wpQuiet_nil ?_
      intro _ hw'
      obtain ⟨⟨dq, osq⟩, hw''⟩ := hw'
      subst hw''
      have HX2 := hide (HX.out.trans (ext_re wr dq osq))
      clear q1 q2
      generalize grow (redrawn wr dq) osq = w2 at *
      go_wp2
      go_roundw
      case rel => exact ⟨k + 1, by omega, by go_num, HX2.out⟩
      case measure => simp [intOf]; omega
    · go_wp2
      go_ret
      exact ⟨rfl, HX.out⟩

set_option maxHeartbeats 1000000 in
theorem kdLLL.sz : SzD Try.prog kdLLL 65 := by
  rintro w vs d l ⟨A, c, rfl, h⟩ hl0 hl1
  have hlen := wtL_len kdLL d
  have HD := hide h
  have hcap := h.1
  have hcm := h.2.1
  clear h
  show Calls _ _ #[.slice A d.length c, .int .i64 l] _ _
  obtain ⟨n, hnd⟩ : ∃ n, Hid (d.length = n) := ⟨_, rfl⟩
  rw [hnd.out] at hlen hcap ⊢
  obtain ⟨W, hW⟩ : ∃ W, Hid (wtL kdLL d = W) := ⟨_, rfl⟩
  rw [hW.out] at hlen
  rw [show (kdLLL.wt d) = W from hW.out]
  by_cases hle0 : (n : Int) ≤ l
  · obtain ⟨R, hR⟩ : ∃ R, Hid ((if (W : Int) ≤ l then l - W else -1) = R) := ⟨_, rfl⟩
    rw [hR.out]
    go_enter Try.func65, Try.ntmps65
    go_wp2
    go_loopw [1, 5] (fun q i wr => ∃ (k : Nat) (m : Int), k ≤ n ∧ i = .int .i64 k ∧ q = .int .i64 m ∧ 0 ≤ m ∧ m + n + wtL kdLL (d.take k) = l + k ∧ Ext w wr) (fun _ i _ => n - (intOf i).toNat)
    case atStart => exact ⟨0, l - n, Nat.zero_le _, rfl, rfl, by omega, by show l - n + n + ((0 : Nat) : Int) = l + ((0 : Nat) : Int); omega, Ext.refl _⟩
    case round =>
      obtain ⟨k, m, hk, rfl, rfl, hm0, hm, hx⟩ := hrel
      have HX := hide hx
      have HM := hide hm
      clear hx hm
      have hm1 : m ≤ 1048576 := by have := HM.out; have h2 : k ≤ wtL kdLL (d.take k) := by { have := wtL_len kdLL (d.take k); simp [hnd.out] at this; omega }; omega
      by_cases hlt : k < n
      · obtain ⟨x, hxk⟩ : ∃ x, Hid (d[k]? = some x) := ⟨_, List.getElem?_eq_getElem (by rw [hnd.out]; exact hlt)⟩
        obtain ⟨b, off, cs, rfl, hb, ⟨Ak, ck, rfl, hrk⟩, hc⟩ := (HD.out.ext HX.out (Nat.le_refl _)).2.2 k x hxk.out
        have hck : wr.cell? ⟨b, off + k, none⟩ = some (.slice Ak x.length ck) := by
          have := hc 0 _ rfl
          rwa [show k * kdLL.size + 0 = k from by show k * 1 + 0 = k; omega] at this
        have HRK := hide hrk
        have hs := hide (wtL_succ kdLL d k x hxk.out)
        have ht := hide (wtL_take_le kdLL d (k + 1))
        clear hc hrk
        go_wp2_with fail
        refine (kdLL.sz wr [.slice Ak x.length ck] x m ⟨Ak, ck, rfl, HRK.out.more HX.out.size⟩ hm0 hm1).mono ?_
        rintro e w2 ⟨rfl, hx2⟩
        have HX2 := hide (HX.out.trans hx2)
        clear hx2
        by_cases hle : (kdLL.wt x : Int) ≤ m
        · rw [if_pos hle]
          generalize hmm : m - (kdLL.wt x : Int) = mm
          have hmm0 : 0 ≤ mm := by omega
          have HMM := hide hmm
          clear hmm
          go_wp2
          go_roundw
          case rel => exact ⟨k + 1, mm, by omega, by go_num, rfl, hmm0, by have := HM.out; have := hs.out; have := HMM.out; omega, HX2.out⟩
          case measure => simp [intOf]; omega
        · rw [if_neg hle]
          go_wp2
          go_ret
          exact ⟨ret_int (by rw [← hR.out, if_neg (by have := HM.out; have := hs.out; have := ht.out; have := hW.out; have := hnd.out; omega)]), HX2.out⟩
      · go_wp2
        go_ret
        have ek : k = n := by omega
        have ht : d.take k = d := List.take_of_length_le (by rw [hnd.out]; omega)
        exact ⟨ret_int (by have h1 := HM.out; rw [ht, hW.out] at h1; rw [← hR.out, if_pos (by omega)]; omega), HX.out⟩
  · rw [if_neg (by omega)]
    go_enter Try.func65, Try.ntmps65
    go_wp2
    go_ret
    exact ⟨rfl, Ext.refl _⟩

end Go.Proofs.Ytmckompikbechaa
