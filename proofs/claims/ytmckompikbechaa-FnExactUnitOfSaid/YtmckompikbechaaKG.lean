/- Lists of lists, and marks: what the laws' helpers do with them. -/
import Derived.Test.YtmckompikbechaaKF
import Derived.Test.YtmckompikbechaaTI
import Derived.Lib.QuietBelow
namespace Go.Proofs.Ytmckompikbechaa
open Go.RowKit
set_option linter.unusedVariables false

/-- What is copied so far: the first k elements, then zeros. -/
def partG {α : Type} (z : α) (xs : List α) (k : Nat) : List α := xs.take k ++ List.replicate (xs.length - k) z
section
variable {α : Type} (z : α) (xs : List α) (k : Nat)
theorem partG_zero : partG z xs 0 = List.replicate xs.length z := by simp [partG]
theorem partG_all (h : ¬ k < xs.length) : partG z xs k = xs := by
  unfold partG
  rw [List.take_of_length_le (by omega), show xs.length - k = 0 by omega]; simp
theorem partG_len (h : k ≤ xs.length) : (partG z xs k).length = xs.length := by simp [partG]; omega
theorem partG_at (h : k < xs.length) : (partG z xs k)[k]? = some z := by
  have e : (xs.take k).length = k := by simp; omega
  unfold partG
  rw [List.getElem?_append_right (by omega), e, Nat.sub_self, List.getElem?_replicate, if_pos (by omega)]
theorem partG_set (h : k < xs.length) (x : α) (hx : xs[k]? = some x) : (partG z xs k).set k x = partG z xs (k + 1) := by
  obtain ⟨_, rfl⟩ := List.getElem?_eq_some_iff.1 hx
  have e0 : (xs.take k).length = k := by simp; omega
  have e : xs.length - k = (xs.length - (k + 1)) + 1 := by omega
  unfold partG
  rw [List.take_succ_eq_append_getElem h, List.set_append_right _ _ (by omega), e0, Nat.sub_self, e, List.replicate_succ, List.set_cons_zero, List.append_assoc]
  rfl
end
theorem flat_repl (n : Nat) (v : Value) : (List.replicate n [v]).flatten = List.replicate n v := by
  induction n with
  | zero => rfl
  | succ n ih => rw [List.replicate_succ, List.flatten_cons, ih, List.replicate_succ]; rfl
theorem wtL_len {α : Type} (K : Kd α) (xs : List α) : xs.length ≤ wtL K xs := by
  induction xs with
  | nil => simp
  | cons x t ih => show t.length + 1 ≤ 1 + K.wt x + wtL K t; omega
theorem wtL_at {α : Type} (K : Kd α) (xs : List α) (k : Nat) (x : α) (h : xs[k]? = some x) : K.wt x ≤ wtL K xs := by
  induction xs generalizing k with
  | nil => simp at h
  | cons y t ih =>
    show K.wt x ≤ 1 + K.wt y + wtL K t
    cases k with
    | zero => simp at h; subst h; omega
    | succ k => simp at h; have := ih k h; omega
theorem LO.ext {α : Type} {K : Kd α} {e : TypeId} {w w' : World} {A : Option Addr} {c : Nat} {xs : List α} {fp : List Nat} (h : LO K e w A c xs fp) (k : Ext w w') : LO K e w' A c xs fp := h.keep fun i hi => k.block i (h.lt i hi)
theorem one_cells (w : World) (g k : Nat) (v : Value) (s : Nat) (hs : s = 1) : w.setCells g (k * s) [v] = w.setCell ⟨g, k, none⟩ v := by subst hs; rw [Nat.mul_one]; rfl

theorem info_row : (Try.prog.info? 51).map (fun i => (i.zero, i.size, i.bytes)) = some (some (.slice none 0 0), 1, 24) := by kernel_rfl
theorem elemN_row : ElemN Try.prog 84 51 1 24 (.slice none 0 0) := ElemN.mk Try.underlying84 info_row rfl
theorem kdL.val1 (v : Value) : kdL.val [v] = v := rfl
theorem kdLL.val1 (v : Value) : kdLL.val [v] = v := rfl
theorem kdL.zero (w : World) : kdL.own w [.slice none 0 0] [] [] := ⟨none, 0, rfl, LO.none_⟩

set_option maxHeartbeats 1000000 in
theorem kdLL.to_ : ToD Try.prog kdLL 127 := by
  rintro w vs d ⟨A, c, rfl, h⟩ hn
  have hwt : wtL kdL d ≤ 1048576 := hn
  have hlen := wtL_len kdL d
  obtain ⟨i0, hi, hz0, hz1, hz2⟩ := info_parts info_row
  have HD := hide h
  clear h hn
  show Calls _ _ #[.slice A d.length c] _ _
  obtain ⟨n, hnd⟩ : ∃ n, Hid (d.length = n) := ⟨_, rfl⟩
  rw [hnd.out] at hlen ⊢
  have hn : n ≤ 1048576 := by omega
  have HW := hide hwt
  clear hwt hlen
  go_enter Try.func127, Try.ntmps127
  go_wp2_with (at_make; refine wpList_make_full _ rfl _ _ _ rfl 0 51 i0 _ 1 Try.underlying84 hi hz0 hz1 _ _ _ _ n rfl rfl rfl rfl ?c1 ?c2 ?c3 ?_)
  case c1 => rw [hz2]; omega
  case c2 => unfold maxLen; omega
  case c3 => exact Nat.zero_le _
  intro w1 hown hgrow
  have hb1 : Ext w w1 := (Below.refl _ _).grown hgrow (Nat.le_refl _) (by simp)
  have HL1 : Hid (LO kdL 51 w1 (some ⟨w.heap.size, 0, none⟩) n (List.replicate n []) [w.heap.size]) := by
    refine LO.made (zc := [.slice none 0 0]) ?_ kdL.zero
    rw [flat_repl]
    rwa [toList_madeCells_one] at hown
  have HX1 := hide hb1
  clear hown hgrow hb1
  go_wp2
  go_loopw [4] (fun i wr => ∃ (k : Nat) (fp : List Nat), k ≤ n ∧ i = .int .i64 k ∧ LO kdL 51 wr (some ⟨w.heap.size, 0, none⟩) n (partG [] d k) fp ∧ (∀ i ∈ fp, w.heap.size ≤ i) ∧ Ext w wr) (fun i _ => n - (intOf i).toNat)
  case atStart => exact ⟨0, [w.heap.size], Nat.zero_le _, rfl, by rw [partG_zero, hnd.out]; exact HL1.out, by simp, HX1.out⟩
  case round =>
    obtain ⟨k, fp, hk, rfl, hlo, hfp, hx⟩ := hrel
    have HLO := hide hlo
    have HFP := hide hfp
    have HX := hide hx
    clear hlo hfp hx
    by_cases hlt : k < n
    · obtain ⟨x, hxk⟩ : ∃ x, Hid (d[k]? = some x) := ⟨_, List.getElem?_eq_getElem (by rw [hnd.out]; exact hlt)⟩
      obtain ⟨b, off, cs, rfl, hb, ⟨Ak, ck, rfl, hrk⟩, hc⟩ := (HD.out.ext HX.out (Nat.le_refl _)).2.2 k x hxk.out
      have hck : wr.cell? ⟨b, off + k, none⟩ = some (.slice Ak x.length ck) := by
        have := hc 0 _ rfl
        rwa [show k * kdL.size + 0 = k from by show k * 1 + 0 = k; omega] at this
      have HRK := hide hrk
      clear hc hrk
      go_wp2_with fail
      refine (kdL.to_ wr [.slice Ak x.length ck] x ⟨Ak, ck, rfl, HRK.out.more HX.out.size⟩ (Nat.le_trans (wtL_at kdL d k x hxk.out) HW.out)).mono ?_
      rintro e w2 ⟨vs', fp', rfl, ho', hfp', hx'⟩
      obtain ⟨A', c', rfl, hlo'⟩ := ho'
      have HO' : Hid (kdL.own w2 [.slice A' x.length c'] x fp') := ⟨A', c', rfl, hlo'⟩
      have HX2 := hide hx'
      obtain ⟨g, cs0, f, hat⟩ := (HLO.out.ext hx').at_ k [] (partG_at [] d k (by rw [hnd.out]; exact hlt))
      obtain rfl : g = w.heap.size := by have := hat.addr; simpa using this.symm
      obtain ⟨A0, c0, hcs0, hlo0⟩ := hat.own
      subst hcs0
      have hcd : w2.cell? ⟨w.heap.size, k, none⟩ = some (.slice A0 ([] : List Int).length c0) := by
        have := hat.cell 0 _ rfl
        rwa [show k * kdL.size + 0 = k from by show k * 1 + 0 = k; omega] at this
      have hfd := hat.free k
      have HAT := hide hat
      have HFP' := hide hfp'
      clear hat hlo' hlo0 hx' hfp'
      rw [kdL.val1]
      go_wp2
      go_roundw
      case rel =>
        obtain ⟨fp2, hl2, hs2⟩ := HAT.out.store w2 _ x fp' HO'.out (TchF.refl _ _) (fun i hi => .inr (fun hm => by have h1 := HFP'.out i hi; have h2 := HLO.out.lt i hm; omega))
        rw [one_cells _ _ _ _ kdL.size rfl, partG_set [] d k (by rw [hnd.out]; exact hlt) x hxk.out] at hl2
        refine ⟨k + 1, fp2, by omega, by go_num, hl2, fun i hi => ?_, Below.setCell (HX.out.trans HX2.out) (Nat.le_refl _) _⟩
        rcases hs2 i hi with h1 | h1
        · exact HFP.out i h1
        · exact Nat.le_trans HX.out.size (HFP'.out i h1)
      case measure => simp [intOf]; omega
    · go_wp2
      go_ret
      refine ⟨[.slice (some ⟨w.heap.size, 0, none⟩) n n], fp, rfl, ⟨_, _, by rw [hnd.out], ?_⟩, HFP.out, HX.out⟩
      have := HLO.out
      rwa [partG_all [] d k (by rw [hnd.out]; exact hlt)] at this
end Go.Proofs.Ytmckompikbechaa
