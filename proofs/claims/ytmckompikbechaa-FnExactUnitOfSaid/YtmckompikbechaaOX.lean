/- Lists of items in new memory. -/
import Derived.Test.YtmckompikbechaaOW
namespace Go.Proofs.Ytmckompikbechaa
open Go.RowKit Go.Sort
set_option linter.unusedVariables false

theorem elemN_item : ElemN Try.prog 24 70 3 56 (.agg #[.slice none 0 0, .slice none 0 0, .bool false]) := ElemN.mk Try.underlying24 info_item rfl
theorem LO.emptyI (w : World) : LO kdItem 70 (w.alloc (.cells #[] 70)) (some ⟨w.heap.size, 0, none⟩) 0 [] [w.heap.size] :=
  ⟨[], [], World.ownsRow_lit w #[] 0 (Nat.zero_le _) (by unfold maxLen; omega) rfl, rfl, rfl, by simp, rfl, by simp⟩
theorem item_src (w : World) (a b c : Value) (t : TypeId) : ∀ j v, [a, b, c][j]? = some v → (w.alloc (.cells #[a, b, c] t)).cell? ⟨w.heap.size, 0 + j, none⟩ = some v := by
  intro j v h
  match j, h with
  | 0, h => simp at h; subst h; simp [World.cell?_alloc_at]
  | 1, h => simp at h; subst h; simp [World.cell?_alloc_at]
  | 2, h => simp at h; subst h; simp [World.cell?_alloc_at]
  | j + 3, h => simp at h

set_option maxRecDepth 100000 in
set_option maxHeartbeats 4000000 in
theorem i.copyItems_any (w : World) (A : Option Addr) (c B : Nat) (xs : List ItD) (h : LR kdItem w B A c xs) (hB : B ≤ w.heap.size) (hwt : wtL kdItem xs ≤ 1048576) :
    Calls Try.prog 56 #[.slice A xs.length c] w fun e w' => ∃ A' c' fp, e = .returned (.slice A' xs.length c') ∧ LO kdItem 70 w' A' c' xs fp ∧ (∀ i ∈ fp, w.heap.size ≤ i) ∧ Ext w w' := by
  have H := hide h
  have HW := hide hwt
  have a1 := h.1; have a2 := h.2.1
  have hlen := wtL_len kdItem xs
  have hn0 : xs.length ≤ 1048576 := by omega
  clear h hwt hlen
  obtain ⟨n, hn⟩ : ∃ n, Hid (xs.length = n) := ⟨_, rfl⟩
  rw [hn.out] at hn0 a1 ⊢
  go_enter Try.func56, Try.ntmps56
  go_wp2
  go_loopw [3, 9] (fun o i0 wr => ∃ (k : Nat) (A' : Option Addr) (c' : Nat) (fp : List Nat), k ≤ n ∧ i0 = .int .i64 k ∧ o = .slice A' k c' ∧ LO kdItem 70 wr A' c' (xs.take k) fp ∧ (∀ i ∈ fp, w.heap.size ≤ i) ∧ Ext w wr) (fun _ i0 _ => n - (intOf i0).toNat)
  case atStart => exact ⟨0, _, _, _, Nat.zero_le _, rfl, rfl, LO.emptyI w, fun i hi => by simp at hi; omega, Ext.alloc w _⟩
  case round =>
    obtain ⟨k, A', c', fp, hk, rfl, rfl, hown, hfp, hx⟩ := hrel
    have HO := hide hown
    have HF := hide hfp
    have HX := hide hx
    clear hown hx hfp
    by_cases hlt : k < n
    · obtain ⟨x, hxk⟩ : ∃ x, Hid (xs[k]? = some x) := ⟨_, List.getElem?_eq_getElem (by rw [hn.out]; exact hlt)⟩
      obtain ⟨b, off, A1, c1, A2, c2, rfl, hb, q0, q1, q2, r1, r2⟩ := (H.out.ext HX.out hB).item k x hxk.out
      have sz := HX.out.size
      have hcap := HO.out.cap
      obtain ⟨W1, hW1⟩ : ∃ W1, Hid (W1 = wr.alloc (.cells #[.slice A1 x.1.length c1, .slice A2 x.2.1.length c2, .bool x.2.2] 70)) := ⟨_, rfl⟩
      have x1 : Ext wr W1 := by rw [hW1.out]; exact Ext.alloc _ _
      have TO := hide (i.copyItem_to W1 _ x (kdItem.rd_more (B' := W1.heap.size) (kdItem.mk_ (r1.ext x1 (by omega)) (r2.ext x1 (by omega))) (by have := x1.size; omega)) (Nat.le_trans (wtL_at kdItem xs k x hxk.out) HW.out))
      have HK : Hid (xs.take (k + 1) = xs.take k ++ [x]) := by
        obtain ⟨hk', e⟩ := List.getElem?_eq_some_iff.1 hxk.out
        show _ = _
        rw [List.take_succ_eq_append_getElem hk', e]
      have HL : Hid ((xs.take k).length = k) := by show _ = _; rw [List.length_take, hn.out]; omega
      have LT := hide HO.out.lt
      replace HO := hide (HO.out.ext x1)
      replace HX := hide (HX.out.trans x1)
      have sz1 := x1.size
      clear x1 r1 r2
      go_wp2_with fail
      rw [← hW1.out]
      clear hW1 q0 q1 q2
      refine TO.out.mono ?_
      rintro e w4 ⟨vs', f', rfl, ho', hf', x4⟩
      obtain ⟨A3, c3, A4, c4, rfl, _, _⟩ := kdItem.open_ (kdItem.own_rd ho')
      rw [kdItem.val3]
      have LO1 := hide ((HO.out.ext x4).ext (Ext.alloc w4 (.cells #[.slice A3 x.1.length c3, .slice A4 x.2.1.length c4, .bool x.2.2] 70)))
      have KO1 := hide (kdItem.own_ext ho' (Ext.alloc w4 (.cells #[.slice A3 x.1.length c3, .slice A4 x.2.1.length c4, .bool x.2.2] 70)))
      have D2 := hide (item_src w4 (.slice A3 x.1.length c3) (.slice A4 x.2.1.length c4) (.bool x.2.2) 70)
      have X4 := hide ((HX.out.trans x4).trans (Ext.alloc w4 (.cells #[.slice A3 x.1.length c3, .slice A4 x.2.1.length c4, .bool x.2.2] 70)))
      have FL := hide hf'
      have sz4 := x4.size
      have b1 : (k + 1) * 56 ≤ 140737488355328 := by omega
      have b2 : k + 1 ≤ 4611686018427387904 := by omega
      clear ho' hf' x4 HO TO
      generalize x.1.length = m1 at *
      generalize x.2.1.length = m2 at *
      generalize x.2.2 = m3 at *
      go_wp2_with (at_builtin; refine wpList_append_LO (K := kdItem) rfl (.tmp 13) (.tmp 16) rfl elemN_item (by decide) HL.out.symm rfl rfl LO1.out KO1.out ?d1 D2.out b1 b2 ?_)
      case d1 => intro i hi hm; have := FL.out i hi; have := LT.out i hm; omega
      intro A9 c9 w9 fp9 hap
      have HA := hide hap
      clear hap
      go_wp2
      go_roundw
      case rel =>
        refine ⟨k + 1, A9, c9, fp9, by omega, by go_num, rfl, by rw [HK.out]; exact HA.out.own, fun i hi => ?_, X4.out.tchF HA.out.tch HF.out⟩
        have h5 := X4.out.size
        rcases HA.out.sub i hi with h | h | h
        · exact HF.out i h
        · have := FL.out i h; omega
        · rw [h]; exact h5
      case measure => simp [intOf]; omega
    · have ek : n = k := by omega
      subst ek
      go_wp2
      go_ret
      exact ⟨A', c', fp, rfl, by have h8 := HO.out; rwa [List.take_of_length_le (by rw [hn.out]; exact Nat.le_refl _)] at h8, HF.out, HX.out⟩
end Go.Proofs.Ytmckompikbechaa
