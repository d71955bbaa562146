/- A text split at a byte: the reference's. -/
import Derived.Test.YtnokilofcdbjhaaGreatDoorXM
import Derived.Deep.Cut
namespace Go.Proofs.YtnokilofcdbjhaaGreatDoor
open Go.RowKit Go.Sort
set_option linter.unusedVariables false

def attX (p : List UInt8) : List (List UInt8) → List (List UInt8)
  | [] => [p]
  | h :: t => (p ++ h) :: t
theorem attX_nil (ls : List (List UInt8)) (h : ls ≠ []) : attX [] ls = ls := by
  cases ls with
  | nil => exact absurd rfl h
  | cons x t => rfl
theorem attX_cons (p : List UInt8) (c : UInt8) (ls : List (List UInt8)) (h : ls ≠ []) : attX p (consX c ls) = attX (p ++ [c]) ls := by
  cases ls with
  | nil => exact absurd rfl h
  | cons x t => simp [attX, consX]
theorem info_strY : (Tryz.prog.info? 9).map (fun i => (i.zero, i.size, i.bytes)) = some (some (.string (bs [])), 1, 16) := by kernel_rfl
theorem elem_strY : Elem Tryz.prog 73 9 16 := Elem.mk Tryz.underlying73 info_strY rfl
theorem one_strY (x : List UInt8) : ∀ u ∈ [Value.string (bs x)], u.oneCell' = true := by
  intro u hu
  simp at hu
  subst hu
  simp [Value.oneCell']
theorem strsX_snoc (ys : List (List UInt8)) (x : List UInt8) : strsX ys ++ [Value.string (bs x)] = strsX (ys ++ [x]) := by simp [strsX]
theorem strsX_len (ys : List (List UInt8)) : (strsX ys).length = ys.length := by simp [strsX]

set_option maxRecDepth 100000 in
set_option maxHeartbeats 2000000 in
theorem s.l1Split_m (l : List UInt8) (b : UInt8) (w : World) (hl : l.length ≤ 1048576) : Calls Tryz.prog 49 #[.string (bs l), .int .u8 (b.toNat : Int)] w fun e w' => ∃ A c, e = .returned (.slice A (splitX b l).length c) ∧ Own 9 w' w.heap.size A (splitX b l).length c (strsX (splitX b l)) ∧ Ext w w' := by
  have hsz : (bs l).size = l.length := bsz l
  have CNT : Hid ((splitX b l).length ≤ 1048577) := by show _ ≤ _; have := splitX_count b l; have := List.count_le_length (a := b) (l := l); omega
  obtain ⟨LS, hLS⟩ : ∃ LS, Hid (splitX b l = LS) := ⟨_, rfl⟩
  rw [hLS.out] at CNT ⊢
  have I0 : Hid (LS = [] ++ attX ((l.take 0).drop 0) (splitX b (l.drop 0))) := by
    show _ = _
    rw [← hLS.out, List.nil_append, show (l.take 0).drop 0 = [] from rfl, attX_nil _ (splitX_ne _ _)]; rfl
  have IX : Hid (∀ (i : Nat), i < l.length → ∀ w : World, (Instr.index 9 (.string (bs l)) (.int .i64 (i : Int))).run Tryz.prog w = .ok (.int .u8 ((l.getD i 0).toNat : Int)) w) := fun i hi w => run_at l i hi w
  have SM : Hid (∀ (i j : Nat), i ≤ j → j ≤ l.length → ∀ w : World, (Instr.slice 9 (.string (bs l)) (some (.int .i64 (i : Int))) (some (.int .i64 (j : Int))) none).run Tryz.prog w = .ok (.string (bs ((l.drop i).take (j - i)))) w) := fun i j h1 h2 w => slice_midX l i j h1 h2 w
  have SF : Hid (∀ (i : Nat), i ≤ l.length → ∀ w : World, (Instr.slice 9 (.string (bs l)) (some (.int .i64 (i : Int))) none none).run Tryz.prog w = .ok (.string (bs (l.drop i))) w) := fun i h1 w => slice_fromX l i h1 w
  have O0 : Hid (Own 9 w w.heap.size none 0 0 (strsX [])) := ⟨by simp [strsX], .inl ⟨rfl, rfl⟩⟩
  go_enter Tryz.func49, Tryz.ntmps49
  go_wp2
  go_loopw [5, 6, 7] (fun s5 s6 s7 wr => ∃ (k f : Nat) (A : Option Addr) (c : Nat) (ys : List (List UInt8)), f ≤ k ∧ k ≤ l.length ∧ s7 = .int .i64 k ∧ s6 = .int .i64 f ∧ s5 = .slice A ys.length c ∧ LS = ys ++ attX ((l.take k).drop f) (splitX b (l.drop k)) ∧ Own 9 wr w.heap.size A ys.length c (strsX ys) ∧ Ext w wr) (fun _ _ s7 _ => l.length - (intOf s7).toNat)
  case atStart => exact ⟨0, 0, none, 0, [], Nat.le_refl _, Nat.zero_le _, by go_num, by go_num, rfl, I0.out, O0.out, Ext.refl _⟩
  case round =>
    clear O0 I0
    obtain ⟨k, f, A, c, ys, hf, hk, rfl, rfl, rfl, hi, ho, hx⟩ := hrel
    have HI := hide hi
    have HO := hide ho
    have HX := hide hx
    clear hi ho hx
    have yl : ys.length ≤ 1048577 := by
      have := CNT.out
      rw [HI.out, List.length_append] at this
      omega
    by_cases hlt : k < l.length
    · have hix := IX.out k hlt
      have hsm := SM.out f k hf hk
      have hd : l.drop k = l.getD k 0 :: l.drop (k + 1) := by
        rw [List.drop_eq_getElem_cons hlt, List.getD_eq_getElem?_getD, List.getElem?_eq_getElem hlt]; rfl
      have ht : l.take (k + 1) = l.take k ++ [l.getD k 0] := by
        rw [List.take_add_one, List.getElem?_eq_getElem hlt, List.getD_eq_getElem?_getD, List.getElem?_eq_getElem hlt]; rfl
      have HP : Hid ((l.take k).drop f = (l.drop f).take (k - f)) := List.drop_take
      have HD := hide hd
      have HT := hide ht
      clear hd ht
      obtain ⟨x, hx⟩ : ∃ x, Hid (l.getD k 0 = x) := ⟨_, rfl⟩
      rw [hx.out] at hix HD HT
      have iz : (k : Int) < (l.length : Int) := by omega
      obtain ⟨P, hP⟩ : ∃ P, Hid ((l.drop f).take (k - f) = P) := ⟨_, rfl⟩
      rw [hP.out] at hsm HP
      rw [HP.out, HD.out] at HI
      have HT2 : Hid ((l.take (k + 1)).drop f = P ++ [x]) := by
        show _ = _
        rw [HT.out, List.drop_append_of_le_length (by rw [List.length_take]; omega), HP.out]
      by_cases hxb : x = b
      · subst hxb
        have hb : ((x.toNat : Int) == (x.toNat : Int)) = true := by simp
        have HI2 : Hid (LS = (ys ++ [P]) ++ attX ((l.take (k + 1)).drop (k + 1)) (splitX x (l.drop (k + 1)))) := by
          show _ = _
          rw [HI.out, splitX, if_pos rfl, show (l.take (k + 1)).drop (k + 1) = [] from List.drop_of_length_le (by rw [List.length_take]; omega), attX_nil _ (splitX_ne _ _)]
          simp [attX]
        go_wp2_with (at_builtin; refine wpList_append_sl rfl (.tmp 19) (.tmp 24) rfl elem_strY rfl rfl (lo := w.heap.size) (Own.alloc HO.out (.cells #[.string (bs P)] 9)) (Sl.one wr (.string (bs P)) 9) (one_strY _) (by omega) (by omega) (by have := HX.out.size; simp; omega) ?_)
        intro A5 c5 w5 hap
        have O5 := hide hap.own
        have X5 := hide (hap.ext (HX.out.trans (Ext.alloc _ _)) (HO.out.fromLo))
        clear hap
        go_wp2
        go_roundw
        case rel => exact ⟨k + 1, k + 1, A5, c5, ys ++ [P], Nat.le_refl _, by omega, by go_num, by go_num, by simp, HI2.out, by rw [List.length_append, ← strsX_snoc]; exact O5.out, X5.out⟩
        case measure => simp [intOf]; omega
      · have hb : ((x.toNat : Int) == (b.toNat : Int)) = false := by
          have h2 : x.toNat ≠ b.toNat := fun e => hxb (UInt8.toNat_inj.1 e)
          simpa using fun e : (x.toNat : Int) = b.toNat => h2 (by omega)
        have HI2 : Hid (LS = ys ++ attX ((l.take (k + 1)).drop f) (splitX b (l.drop (k + 1)))) := by
          show _ = _
          rw [HI.out, splitX, if_neg hxb, attX_cons _ _ _ (splitX_ne _ _), HT2.out]
        go_wp2
        go_roundw
        case rel => exact ⟨k + 1, f, A, c, ys, by omega, by omega, by go_num, by go_num, rfl, HI2.out, HO.out, HX.out⟩
        case measure => simp [intOf]; omega
    · obtain rfl : k = l.length := by omega
      have hsf := SF.out f hf
      have HI2 : Hid (LS = ys ++ [l.drop f]) := by
        show _ = _
        rw [HI.out, List.drop_length, List.take_length]
        simp [splitX, attX]
      obtain ⟨P, hP⟩ : ∃ P, Hid (l.drop f = P) := ⟨_, rfl⟩
      rw [hP.out] at hsf HI2
      go_wp2_with (at_builtin; refine wpList_append_sl rfl (.tmp 28) (.tmp 32) rfl elem_strY rfl rfl (lo := w.heap.size) (Own.alloc HO.out (.cells #[.string (bs P)] 9)) (Sl.one wr (.string (bs P)) 9) (one_strY _) (by omega) (by omega) (by have := HX.out.size; simp; omega) ?_)
      intro A5 c5 w5 hap
      have O5 := hide hap.own
      have X5 := hide (hap.ext (HX.out.trans (Ext.alloc _ _)) (HO.out.fromLo))
      clear hap
      go_wp2
      go_ret
      exact ⟨A5, c5, by rw [HI2.out, List.length_append]; rfl, by rw [HI2.out, List.length_append, ← strsX_snoc]; exact O5.out, X5.out⟩
end Go.Proofs.YtnokilofcdbjhaaGreatDoor
