/- Lists of structs: copied, compared, weighed. -/
import Derived.Test.YtmckompikbechaaNB
namespace Go.Proofs.Ytmckompikbechaa
open Go.RowKit Go.Sort
set_option linter.unusedVariables false

theorem made_flat (z : Array Value) (n : Nat) : (madeCells z (n * z.size)).toList = (List.replicate n z.toList).flatten := by
  have h0 : ∀ m, (madeCells z m).toList = (List.range m).map (fun i => z[i % z.size]!) := by
    intro m
    simp [madeCells]
  rw [h0]
  induction n with
  | zero => simp
  | succ n ih =>
    rw [Nat.add_mul, Nat.one_mul, List.range_add, List.map_append, ih, List.replicate_succ', List.flatten_append]
    congr 1
    rw [List.map_map]
    simp only [List.flatten_cons, List.flatten_nil, List.append_nil]
    apply List.ext_getElem
    · simp
    · intro i h1 h2
      simp at h1
      simp only [List.getElem_map, List.getElem_range, Function.comp_apply]
      rw [Nat.mul_comm n, Nat.mul_add_mod, Nat.mod_eq_of_lt h1]
      simp [h1]

def kdItS : Kd (List ItD) := kdList 70 kdItem
def noItem : ItD := ([], [], false)
theorem info_item : (Try.prog.info? 70).map (fun i => (i.zero, i.size, i.bytes)) = some (some (.agg #[.slice none 0 0, .slice none 0 0, .bool false]), 3, 56) := by kernel_rfl
theorem kdItem.zero (w : World) : kdItem.own w [.slice none 0 0, .slice none 0 0, .bool false] noItem [] := kdItem.mkOwn (d := noItem) LO.none_ LO.none_ (by simp)
theorem LR.item {w : World} {B c : Nat} {A : Option Addr} {xs : List ItD} (h : LR kdItem w B A c xs) (k : Nat) (x : ItD) (hx : xs[k]? = some x) : ∃ b off A1 c1 A2 c2, A = some ⟨b, off, none⟩ ∧ b < B ∧ w.cell? ⟨b, off + k * 3, none⟩ = some (.slice A1 x.1.length c1) ∧ w.cell? ⟨b, off + k * 3 + 1, none⟩ = some (.slice A2 x.2.1.length c2) ∧ w.cell? ⟨b, off + k * 3 + 2, none⟩ = some (.bool x.2.2) ∧ LR kdS w B A1 c1 x.1 ∧ LR kdInt w B A2 c2 x.2.1 := by
  obtain ⟨b, off, cs, rfl, hb, hr, hc⟩ := h.2.2 k x hx
  obtain ⟨A1, c1, A2, c2, rfl, h1, h2⟩ := kdItem.open_ hr
  exact ⟨b, off, A1, c1, A2, c2, rfl, hb, hc 0 _ rfl, hc 1 _ rfl, hc 2 _ rfl, h1, h2⟩

set_option maxHeartbeats 2000000 in
theorem kdItS.to_ : ToD Try.prog kdItS 15 := by
  rintro w vs d ⟨A, c, rfl, h⟩ hn
  have hwt : wtL kdItem d ≤ 1048576 := hn
  have hlen := wtL_len kdItem d
  obtain ⟨i0, hi, hz0, hz1, hz2⟩ := info_parts info_item
  have HD := hide h
  clear h hn
  show Calls _ _ #[.slice A d.length c] _ _
  obtain ⟨n, hnd⟩ : ∃ n, Hid (d.length = n) := ⟨_, rfl⟩
  rw [hnd.out] at hlen ⊢
  have hn : n ≤ 1048576 := by omega
  have HW := hide hwt
  clear hwt hlen
  go_enter Try.func15, Try.ntmps15
  go_wp2_with (at_make; refine wpList_make_full _ rfl _ _ _ rfl 0 70 i0 _ 3 Try.underlying24 hi hz0 hz1 _ _ _ _ n rfl rfl rfl rfl ?c1 ?c2 ?c3 ?_)
  case c1 => rw [hz2]; omega
  case c2 => unfold maxLen; omega
  case c3 => exact Nat.zero_le _
  intro w1 hown hgrow
  have hb1 : Ext w w1 := (Below.refl _ _).grown hgrow (Nat.le_refl _) (by simp)
  have HL1 : Hid (LO kdItem 70 w1 (some ⟨w.heap.size, 0, none⟩) n (List.replicate n noItem) [w.heap.size]) := by
    refine LO.made (zc := [.slice none 0 0, .slice none 0 0, .bool false]) ?_ kdItem.zero
    have h8 := made_flat #[.slice none 0 0, .slice none 0 0, .bool false] n
    rw [← show (#[.slice none 0 0, .slice none 0 0, .bool false] : Array Value).toList = [.slice none 0 0, .slice none 0 0, .bool false] from rfl, ← h8]
    exact hown
  have HX1 := hide hb1
  clear hown hgrow hb1
  go_wp2
  go_loopw [4] (fun i wr => ∃ (k : Nat) (fp : List Nat), k ≤ n ∧ i = .int .i64 k ∧ LO kdItem 70 wr (some ⟨w.heap.size, 0, none⟩) n (partG noItem d k) fp ∧ (∀ i ∈ fp, w.heap.size ≤ i) ∧ Ext w wr) (fun i _ => n - (intOf i).toNat)
  case atStart => exact ⟨0, [w.heap.size], Nat.zero_le _, rfl, by rw [partG_zero, hnd.out]; exact HL1.out, by simp, HX1.out⟩
  case round =>
    obtain ⟨k, fp, hk, rfl, hlo, hfp, hx⟩ := hrel
    have HLO := hide hlo
    have HFP := hide hfp
    have HX := hide hx
    clear hlo hfp hx
    by_cases hlt : k < n
    · obtain ⟨x, hxk⟩ : ∃ x, Hid (d[k]? = some x) := ⟨_, List.getElem?_eq_getElem (by rw [hnd.out]; exact hlt)⟩
      obtain ⟨b, off, A1, c1, A2, c2, rfl, hb, q0, q1, q2, r1, r2⟩ := (HD.out.ext HX.out (Nat.le_refl _)).item k x hxk.out
      have RX : Hid (kdItem.rd wr wr.heap.size [.slice A1 x.1.length c1, .slice A2 x.2.1.length c2, .bool x.2.2] x) := kdItem.rd_more (kdItem.mk_ r1 r2) HX.out.size
      clear r1 r2
      go_wp2_with fail
      refine (kdItem.to_ wr _ x RX.out (Nat.le_trans (wtL_at kdItem d k x hxk.out) HW.out)).mono ?_
      rintro e w2 ⟨vs', fp', rfl, ho', hfp', hx'⟩
      obtain ⟨A3, c3, A4, c4, rfl, _, _⟩ := kdItem.open_ (kdItem.own_rd ho')
      have HO' := hide ho'
      have HX2 := hide hx'
      obtain ⟨g, cs0, f, hat⟩ := (HLO.out.ext hx').at_ k noItem (partG_at noItem d k (by rw [hnd.out]; exact hlt))
      obtain rfl : g = w.heap.size := by have := hat.addr; simpa using this.symm
      obtain ⟨A5, c5, A6, c6, rfl, _, _⟩ := kdItem.open_ (kdItem.own_rd hat.own)
      have d0 := hat.cell 0 _ rfl
      have d1 := hat.cell 1 _ rfl
      have d2 := hat.cell 2 _ rfl
      rw [show k * kdItem.size + 0 = k * 3 from rfl] at d0
      rw [show k * kdItem.size + 1 = k * 3 + 1 from rfl] at d1
      rw [show k * kdItem.size + 2 = k * 3 + 2 from rfl] at d2
      have hfd := hat.free
      have HAT := hide hat
      have HFP' := hide hfp'
      clear hat hx' hfp' ho'
      rw [kdItem.val3]
      go_wp2
      go_roundw
      case rel =>
        obtain ⟨fp2, hl2, hs2⟩ := HAT.out.store w2 _ x fp' HO'.out (TchF.refl _ _) (fun i hi => .inr (fun hm => by have h1 := HFP'.out i hi; have h2 := HLO.out.lt i hm; omega))
        rw [partG_set noItem d k (by rw [hnd.out]; exact hlt) x hxk.out] at hl2
        refine ⟨k + 1, fp2, by omega, by go_num, hl2, fun i hi => ?_, Below.setCell (Below.setCell (Below.setCell (HX.out.trans HX2.out) (Nat.le_refl _) _) (Nat.le_refl _) _) (Nat.le_refl _) _⟩
        rcases hs2 i hi with h1 | h1
        · exact HFP.out i h1
        · exact Nat.le_trans HX.out.size (HFP'.out i h1)
      case measure => simp [intOf]; omega
    · go_wp2
      go_ret
      refine ⟨[.slice (some ⟨w.heap.size, 0, none⟩) n n], fp, rfl, ⟨_, _, by rw [hnd.out], ?_⟩, HFP.out, HX.out⟩
      have := HLO.out
      rwa [partG_all noItem d k (by rw [hnd.out]; exact hlt)] at this

set_option maxHeartbeats 2000000 in
theorem kdItS.eq_ : EqD Try.prog kdItS 18 := by
  rintro w vs vs' d ⟨A, c, rfl, h⟩ ⟨A', c', rfl, h'⟩ hn
  have hwt : wtL kdItem d ≤ 1048576 := hn
  have hlen := wtL_len kdItem d
  have HD := hide h
  have HD' := hide h'
  clear h h' hn
  show Calls _ _ #[.slice A d.length c, .slice A' d.length c'] _ _
  obtain ⟨n, hnd⟩ : ∃ n, Hid (d.length = n) := ⟨_, rfl⟩
  rw [hnd.out] at hlen ⊢
  have hn : n ≤ 1048576 := by omega
  have HW := hide hwt
  clear hwt hlen
  have hne : ((n : Int) != (n : Int)) = false := by simp
  go_enter Try.func18, Try.ntmps18
  go_wp2
  go_loopw [5] (fun i wr => ∃ (k : Nat), k ≤ n ∧ i = .int .i64 k ∧ Ext w wr) (fun i _ => n - (intOf i).toNat)
  case atStart => exact ⟨0, Nat.zero_le _, rfl, Ext.refl _⟩
  case round =>
    obtain ⟨k, hk, rfl, hx⟩ := hrel
    have HX := hide hx
    clear hx
    by_cases hlt : k < n
    · obtain ⟨x, hxk⟩ : ∃ x, Hid (d[k]? = some x) := ⟨_, List.getElem?_eq_getElem (by rw [hnd.out]; exact hlt)⟩
      obtain ⟨b, off, A1, c1, A2, c2, rfl, hb, q0, q1, q2, r1, r2⟩ := (HD.out.ext HX.out (Nat.le_refl _)).item k x hxk.out
      obtain ⟨b', off', A3, c3, A4, c4, rfl, hb', q3, q4, q5, r3, r4⟩ := (HD'.out.ext HX.out (Nat.le_refl _)).item k x hxk.out
      have hrd := kdItem.rd_more (kdItem.mk_ r1 r2) HX.out.size
      have hrd' := kdItem.rd_more (kdItem.mk_ r3 r4) HX.out.size
      have u0 := fun dd os => cell_regrown q0 dd os
      have u1 := fun dd os => cell_regrown q1 dd os
      have u2 := fun dd os => cell_regrown q2 dd os
      have u3 := fun dd os => cell_regrown q3 dd os
      have u4 := fun dd os => cell_regrown q4 dd os
      have u5 := fun dd os => cell_regrown q5 dd os
      clear r1 r2 r3 r4
      have HC := hide (fun dd os => ext_regrown (kdItem.eq_ (grow (redrawn wr dd) os) _ _ x (kdItem.rd_more (kdItem.rd_ext hrd (ext_re wr dd os) (Nat.le_refl _)) (ext_re wr dd os).size) (kdItem.rd_more (kdItem.rd_ext hrd' (ext_re wr dd os) (Nat.le_refl _)) (ext_re wr dd os).size) (Nat.le_trans (wtL_at kdItem d k x hxk.out) HW.out)))
      have i1 : (k : Int) < n := by omega
      clear hrd hrd'
      go_wp2
      refine wp_region_quiet_below (by kernel_rfl) (by kernel_rfl) ?_
      repeat (quiet_step (exact HC.out _ _))
      refine wpQuiet_nil ?_
      intro _ hw'
      obtain ⟨⟨dq, osq⟩, hw''⟩ := hw'
      subst hw''
      have HX2 := hide (HX.out.trans (ext_re wr dq osq))
      clear u0 u1 u2 u3 u4 u5
      generalize grow (redrawn wr dq) osq = w2 at *
      go_wp2
      go_roundw
      case rel => exact ⟨k + 1, by omega, by go_num, HX2.out⟩
      case measure => simp [intOf]; omega
    · go_wp2
      go_ret
      exact ⟨rfl, HX.out⟩

set_option maxHeartbeats 2000000 in
theorem kdItS.sz : SzD Try.prog kdItS 13 := by
  rintro w vs d l ⟨A, c, rfl, h⟩ hl0 hl1
  have hlen := wtL_len kdItem d
  have HD := hide h
  have hcap := h.1
  have hcm := h.2.1
  clear h
  show Calls _ _ #[.slice A d.length c, .int .i64 l] _ _
  obtain ⟨n, hnd⟩ : ∃ n, Hid (d.length = n) := ⟨_, rfl⟩
  rw [hnd.out] at hlen hcap ⊢
  obtain ⟨W, hW⟩ : ∃ W, Hid (wtL kdItem d = W) := ⟨_, rfl⟩
  rw [hW.out] at hlen
  rw [show (kdItS.wt d) = W from hW.out]
  by_cases hle0 : (n : Int) ≤ l
  · obtain ⟨R, hR⟩ : ∃ R, Hid ((if (W : Int) ≤ l then l - W else -1) = R) := ⟨_, rfl⟩
    rw [hR.out]
    go_enter Try.func13, Try.ntmps13
    go_wp2
    go_loopw [1, 5] (fun q i wr => ∃ (k : Nat) (m : Int), k ≤ n ∧ i = .int .i64 k ∧ q = .int .i64 m ∧ 0 ≤ m ∧ m + n + wtL kdItem (d.take k) = l + k ∧ Ext w wr) (fun _ i _ => n - (intOf i).toNat)
    case atStart => exact ⟨0, l - n, Nat.zero_le _, rfl, rfl, by omega, by show l - n + n + ((0 : Nat) : Int) = l + ((0 : Nat) : Int); omega, Ext.refl _⟩
    case round =>
      obtain ⟨k, m, hk, rfl, rfl, hm0, hm, hx⟩ := hrel
      have HX := hide hx
      have HM := hide hm
      clear hx hm
      have hm1 : m ≤ 1048576 := by have := HM.out; have h2 : k ≤ wtL kdItem (d.take k) := by { have := wtL_len kdItem (d.take k); simp [hnd.out] at this; omega }; omega
      by_cases hlt : k < n
      · obtain ⟨x, hxk⟩ : ∃ x, Hid (d[k]? = some x) := ⟨_, List.getElem?_eq_getElem (by rw [hnd.out]; exact hlt)⟩
        obtain ⟨b, off, A1, c1, A2, c2, rfl, hb, q0, q1, q2, r1, r2⟩ := (HD.out.ext HX.out (Nat.le_refl _)).item k x hxk.out
        have RX : Hid (kdItem.rd wr wr.heap.size [.slice A1 x.1.length c1, .slice A2 x.2.1.length c2, .bool x.2.2] x) := kdItem.rd_more (kdItem.mk_ r1 r2) HX.out.size
        clear r1 r2
        have hs := hide (wtL_succ kdItem d k x hxk.out)
        have ht := hide (wtL_take_le kdItem d (k + 1))
        go_wp2_with fail
        refine (kdItem.sz wr _ x m RX.out hm0 hm1).mono ?_
        rintro e w2 ⟨rfl, hx2⟩
        have HX2 := hide (HX.out.trans hx2)
        clear hx2
        by_cases hle : (kdItem.wt x : Int) ≤ m
        · rw [if_pos hle]
          generalize hmm : m - (kdItem.wt x : Int) = mm
          have hmm0 : 0 ≤ mm := by omega
          have HMM := hide hmm
          clear hmm
          go_wp2
          go_roundw
          case rel => exact ⟨k + 1, mm, by omega, by go_num, rfl, hmm0, by have := HM.out; have := hs.out; have := HMM.out; omega, HX2.out⟩
          case measure => simp [intOf]; omega
        · rw [if_neg hle]
          go_wp2
          go_ret
          exact ⟨ret_int (by rw [← hR.out, if_neg (by have := HM.out; have := hs.out; have := ht.out; have := hW.out; have := hnd.out; omega)]), HX2.out⟩
      · go_wp2
        go_ret
        have ek : k = n := by omega
        have ht : d.take k = d := List.take_of_length_le (by rw [hnd.out]; omega)
        exact ⟨ret_int (by have h1 := HM.out; rw [ht, hW.out] at h1; rw [← hR.out, if_pos (by omega)]; omega), HX.out⟩
  · rw [if_neg (by omega)]
    go_enter Try.func13, Try.ntmps13
    go_wp2
    go_ret
    exact ⟨rfl, Ext.refl _⟩
end Go.Proofs.Ytmckompikbechaa
