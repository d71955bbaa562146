/- Texts, items, reviews, votes, sheets: as kinds; the texts' lists copied, weighed, compared. -/
import Derived.Test.YtmckompikbechaaKH
namespace Go.Proofs.Ytmckompikbechaa
open Go.RowKit Go.Sort
set_option linter.unusedVariables false

/-- The text with which the laws mark the k-th string. -/
def markD : Nat → Nat → List UInt8
  | 0, _ => []
  | f + 1, k => if k = 0 then [] else markD f (k / 10) ++ [UInt8.ofNat (48 + k % 10)]
def markT (k : Int) : List UInt8 := 109 :: (if k ≤ 0 then [48] else markD 20 k.toNat)
def kdS : Kd (List UInt8) := kdStr markT
def kdSS : Kd (List (List UInt8)) := kdList 9 kdS
/-- A truth value, as the laws mark it in a list. -/
def kdLate : Kd Bool := { kdBool with mrk := fun k _ => k % 3 == 0, cnt := fun _ => 1 }
abbrev ItD := List (List UInt8) × List Int × Bool
def kdItem : Kd ItD := kdPair kdSS (kdPair kdL kdLate)
abbrev RvD := Int × Int × Int
def kdRv : Kd RvD := kdPair kdInt (kdPair kdInt kdInt)
theorem bs_size (x : List UInt8) : (bs x).size = x.length := by simp [bs, ByteArray.size]
theorem bs_inj {x y : List UInt8} (h : bs x = bs y) : x = y := by
  unfold bs at h
  injection h with h
  exact Array.toList_inj.mpr h |> fun e => by simpa using e

theorem info_str : (Try.prog.info? 9).map (fun i => (i.zero, i.size, i.bytes)) = some (some (.string (bs [])), 1, 16) := by kernel_rfl
theorem kdSS.val1 (v : Value) : kdSS.val [v] = v := rfl
theorem kdS.zero (w : World) : kdS.own w [.string (bs [])] [] [] := ⟨⟨rfl, by simp⟩, rfl⟩
/-- A cell of a list of texts. -/
theorem LR.str {w : World} {B c : Nat} {A : Option Addr} {xs : List (List UInt8)} (h : LR kdS w B A c xs) (k : Nat) (x : List UInt8) (hx : xs[k]? = some x) : ∃ b off, A = some ⟨b, off, none⟩ ∧ b < B ∧ w.cell? ⟨b, off + k, none⟩ = some (.string (bs x)) ∧ x.length ≤ 9223372036854775807 := by
  obtain ⟨b, off, cs, rfl, hb, ⟨rfl, hl⟩, hc⟩ := h.2.2 k x hx
  refine ⟨b, off, rfl, hb, ?_, hl⟩
  have := hc 0 _ rfl
  rwa [show k * kdS.size + 0 = k from by show k * 1 + 0 = k; omega] at this

set_option maxHeartbeats 1000000 in
theorem kdSS.to_ : ToD Try.prog kdSS 95 := by
  rintro w vs d ⟨A, c, rfl, h⟩ hn
  have hwt : wtL kdS d ≤ 1048576 := hn
  have hlen := wtL_len kdS d
  obtain ⟨i0, hi, hz0, hz1, hz2⟩ := info_parts info_str
  have HD := hide h
  clear h hn
  show Calls _ _ #[.slice A d.length c] _ _
  obtain ⟨n, hnd⟩ : ∃ n, Hid (d.length = n) := ⟨_, rfl⟩
  rw [hnd.out] at hlen ⊢
  have hn : n ≤ 1048576 := by omega
  have HW := hide hwt
  clear hwt hlen
  go_enter Try.func95, Try.ntmps95
  go_wp2_with (at_make; refine wpList_make_full _ rfl _ _ _ rfl 0 9 i0 _ 1 Try.underlying65 hi hz0 hz1 _ _ _ _ n rfl rfl rfl rfl ?c1 ?c2 ?c3 ?_)
  case c1 => rw [hz2]; omega
  case c2 => unfold maxLen; omega
  case c3 => exact Nat.zero_le _
  intro w1 hown hgrow
  have hb1 : Ext w w1 := (Below.refl _ _).grown hgrow (Nat.le_refl _) (by simp)
  have HL1 : Hid (LO kdS 9 w1 (some ⟨w.heap.size, 0, none⟩) n (List.replicate n []) [w.heap.size]) := by
    refine LO.made (zc := [.string (bs [])]) ?_ kdS.zero
    rw [flat_repl]
    rwa [toList_madeCells_one] at hown
  have HX1 := hide hb1
  clear hown hgrow hb1
  go_wp2
  go_loopw [4] (fun i wr => ∃ (k : Nat) (fp : List Nat), k ≤ n ∧ i = .int .i64 k ∧ LO kdS 9 wr (some ⟨w.heap.size, 0, none⟩) n (partG [] d k) fp ∧ (∀ i ∈ fp, w.heap.size ≤ i) ∧ Ext w wr) (fun i _ => n - (intOf i).toNat)
  case atStart => exact ⟨0, [w.heap.size], Nat.zero_le _, rfl, by rw [partG_zero, hnd.out]; exact HL1.out, by simp, HX1.out⟩
  case round =>
    obtain ⟨k, fp, hk, rfl, hlo, hfp, hx⟩ := hrel
    have HLO := hide hlo
    have HFP := hide hfp
    have HX := hide hx
    clear hlo hfp hx
    by_cases hlt : k < n
    · obtain ⟨x, hxk⟩ : ∃ x, Hid (d[k]? = some x) := ⟨_, List.getElem?_eq_getElem (by rw [hnd.out]; exact hlt)⟩
      obtain ⟨b, off, rfl, hb, hck, hxl⟩ := (HD.out.ext HX.out (Nat.le_refl _)).str k x hxk.out
      obtain ⟨g, cs0, f, hat⟩ := HLO.out.at_ k [] (partG_at [] d k (by rw [hnd.out]; exact hlt))
      obtain rfl : g = w.heap.size := by have := hat.addr; simpa using this.symm
      obtain ⟨⟨hcs0, _⟩, _⟩ := hat.own
      subst hcs0
      have hcd : wr.cell? ⟨w.heap.size, k, none⟩ = some (.string (bs [])) := by
        have := hat.cell 0 _ rfl
        rwa [show k * kdS.size + 0 = k from by show k * 1 + 0 = k; omega] at this
      have hfd := hat.free k
      have HAT := hide hat
      clear hat
      go_wp2
      go_roundw
      case rel =>
        obtain ⟨fp2, hl2, hs2⟩ := HAT.out.store wr [.string (bs x)] x [] ⟨⟨rfl, hxl⟩, rfl⟩ (TchF.refl _ _) (by simp)
        rw [one_cells _ _ _ _ kdS.size rfl, partG_set [] d k (by rw [hnd.out]; exact hlt) x hxk.out] at hl2
        refine ⟨k + 1, fp2, by omega, by go_num, hl2, fun i hi => ?_, Below.setCell HX.out (Nat.le_refl _) _⟩
        rcases hs2 i hi with h1 | h1
        · exact HFP.out i h1
        · simp at h1
      case measure => simp [intOf]; omega
    · go_wp2
      go_ret
      refine ⟨[.slice (some ⟨w.heap.size, 0, none⟩) n n], fp, rfl, ⟨_, _, by rw [hnd.out], ?_⟩, HFP.out, HX.out⟩
      have := HLO.out
      rwa [partG_all [] d k (by rw [hnd.out]; exact hlt)] at this

set_option maxHeartbeats 1000000 in
theorem kdSS.eq_ : EqD Try.prog kdSS 98 := by
  rintro w vs vs' d ⟨A, c, rfl, h⟩ ⟨A', c', rfl, h'⟩ hn
  have hwt : wtL kdS d ≤ 1048576 := hn
  have hlen := wtL_len kdS d
  have HD := hide h
  have HD' := hide h'
  clear h h' hn
  show Calls _ _ #[.slice A d.length c, .slice A' d.length c'] _ _
  obtain ⟨n, hnd⟩ : ∃ n, Hid (d.length = n) := ⟨_, rfl⟩
  rw [hnd.out] at hlen ⊢
  have hn : n ≤ 1048576 := by omega
  clear hwt hlen
  have hne : ((n : Int) != (n : Int)) = false := by simp
  go_enter Try.func98, Try.ntmps98
  go_wp2
  go_loopw [5] (fun i wr => ∃ (k : Nat), k ≤ n ∧ i = .int .i64 k ∧ Ext w wr) (fun i _ => n - (intOf i).toNat)
  case atStart => exact ⟨0, Nat.zero_le _, rfl, Ext.refl _⟩
  case round =>
    obtain ⟨k, hk, rfl, hx⟩ := hrel
    have HX := hide hx
    clear hx
    by_cases hlt : k < n
    · obtain ⟨x, hxk⟩ : ∃ x, Hid (d[k]? = some x) := ⟨_, List.getElem?_eq_getElem (by rw [hnd.out]; exact hlt)⟩
      obtain ⟨b, off, rfl, hb, hck, _⟩ := (HD.out.ext HX.out (Nat.le_refl _)).str k x hxk.out
      obtain ⟨b', off', rfl, hb', hck', _⟩ := (HD'.out.ext HX.out (Nat.le_refl _)).str k x hxk.out
      generalize bs x = xb at *
      have i1 : (k : Int) < n := by omega
      go_wp2
      go_region
      all_goals go_wp2
      all_goals go_roundw
      case rel => exact ⟨k + 1, by omega, by go_num, HX.out.trans (Ext.drew _)⟩
      case measure => simp [intOf]; omega
    · go_wp2
      go_ret
      exact ⟨rfl, HX.out⟩

set_option maxHeartbeats 1000000 in
theorem kdSS.sz : SzD Try.prog kdSS 92 := by
  rintro w vs d l ⟨A, c, rfl, h⟩ hl0 hl1
  have hlen := wtL_len kdS d
  have HD := hide h
  have hcap := h.1
  have hcm := h.2.1
  clear h
  show Calls _ _ #[.slice A d.length c, .int .i64 l] _ _
  obtain ⟨n, hnd⟩ : ∃ n, Hid (d.length = n) := ⟨_, rfl⟩
  rw [hnd.out] at hlen hcap ⊢
  obtain ⟨W, hW⟩ : ∃ W, Hid (wtL kdS d = W) := ⟨_, rfl⟩
  rw [hW.out] at hlen
  rw [show (kdSS.wt d) = W from hW.out]
  by_cases hle0 : (n : Int) ≤ l
  · obtain ⟨R, hR⟩ : ∃ R, Hid ((if (W : Int) ≤ l then l - W else -1) = R) := ⟨_, rfl⟩
    rw [hR.out]
    go_enter Try.func92, Try.ntmps92
    go_wp2
    go_loopw [1, 5] (fun q i wr => ∃ (k : Nat) (m : Int), k ≤ n ∧ i = .int .i64 k ∧ q = .int .i64 m ∧ 0 ≤ m ∧ m + n + wtL kdS (d.take k) = l + k ∧ Ext w wr) (fun _ i _ => n - (intOf i).toNat)
    case atStart => exact ⟨0, l - n, Nat.zero_le _, rfl, rfl, by omega, by show l - n + n + ((0 : Nat) : Int) = l + ((0 : Nat) : Int); omega, Ext.refl _⟩
    case round =>
      obtain ⟨k, m, hk, rfl, rfl, hm0, hm, hx⟩ := hrel
      have HX := hide hx
      have HM := hide hm
      clear hx hm
      have hm1 : m ≤ 1048576 := by have := HM.out; have h2 : k ≤ wtL kdS (d.take k) := by { have := wtL_len kdS (d.take k); simp [hnd.out] at this; omega }; omega
      by_cases hlt : k < n
      · obtain ⟨x, hxk⟩ : ∃ x, Hid (d[k]? = some x) := ⟨_, List.getElem?_eq_getElem (by rw [hnd.out]; exact hlt)⟩
        obtain ⟨b, off, rfl, hb, hck, hxl⟩ := (HD.out.ext HX.out (Nat.le_refl _)).str k x hxk.out
        have hs := hide (wtL_succ kdS d k x hxk.out)
        have ht := hide (wtL_take_le kdS d (k + 1))
        have hwx : Hid (kdS.wt x = (bs x).size) := by show _ = _; rw [bs_size]; rfl
        have hxl' : (bs x).size ≤ 9223372036854775807 := by rw [bs_size]; exact hxl
        clear hxl
        generalize bs x = xb at *
        by_cases hle : (xb.size : Int) ≤ m
        · go_wp2
          go_roundw
          case rel => exact ⟨k + 1, m - (xb.size : Int), by omega, by go_num, by go_num, by omega, by have := HM.out; have := hs.out; have := hwx.out; omega, HX.out⟩
          case measure => simp [intOf]; omega
        · go_wp2
          go_ret
          exact ⟨ret_int (by rw [← hR.out, if_neg (by have := HM.out; have := hs.out; have := ht.out; have := hW.out; have := hnd.out; have := hwx.out; omega)]), HX.out⟩
      · go_wp2
        go_ret
        have ek : k = n := by omega
        have ht : d.take k = d := List.take_of_length_le (by rw [hnd.out]; omega)
        exact ⟨ret_int (by have h1 := HM.out; rw [ht, hW.out] at h1; rw [← hR.out, if_pos (by omega)]; omega), HX.out⟩
  · rw [if_neg (by omega)]
    go_enter Try.func92, Try.ntmps92
    go_wp2
    go_ret
    exact ⟨rfl, Ext.refl _⟩
end Go.Proofs.Ytmckompikbechaa
