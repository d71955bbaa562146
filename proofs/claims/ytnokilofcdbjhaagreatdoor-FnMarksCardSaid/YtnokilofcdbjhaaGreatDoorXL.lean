/- A list of numbers read; lines: the program's. -/
import Derived.Test.YtnokilofcdbjhaaGreatDoorXK
namespace Go.Proofs.YtnokilofcdbjhaaGreatDoor
open Go.RowKit Go.Sort
set_option linter.unusedVariables false

def listI : List (List UInt8) → Option (List Int)
  | [] => some []
  | x :: r => (intI x).bind fun z => (listI r).map fun zs => z :: zs
theorem listI_snoc (a : List (List UInt8)) (x : List UInt8) : listI (a ++ [x]) = (listI a).bind fun zs => (intI x).map fun z => zs ++ [z] := by
  induction a with
  | nil => cases h : intI x <;> simp [listI, h]
  | cons y t ih =>
    rw [List.cons_append, listI, ih, listI]
    cases intI y with
    | none => rfl
    | some z =>
      cases listI t with
      | none => rfl
      | some zs => cases intI x <;> rfl
theorem listI_none {xs : List (List UInt8)} {x : List UInt8} (h : x ∈ xs) (hx : intI x = none) : listI xs = none := by
  induction xs with
  | nil => cases h
  | cons y t ih =>
    rw [listI]
    rcases List.mem_cons.1 h with e | e
    · rw [← e, hx]; rfl
    · rw [ih e]; cases intI y <;> rfl
theorem listI_map {xs : List (List UInt8)} {zs : List Int} (h : listI xs = some zs) : xs = zs.map Lib.itoa := by
  induction xs generalizing zs with
  | nil => cases h; rfl
  | cons y t ih =>
    rw [listI] at h
    cases hy : intI y with
    | none => rw [hy] at h; cases h
    | some z =>
      cases ht : listI t with
      | none => rw [hy, ht] at h; cases h
      | some u =>
        rw [hy, ht] at h
        cases h
        rw [List.map_cons, ← intI_some hy, ← ih ht]
theorem listI_itoa {zs : List Int} (h : ∀ z ∈ zs, z.natAbs < 1000000000000) : listI (zs.map Lib.itoa) = some zs := by
  induction zs with
  | nil => rfl
  | cons z t ih =>
    rw [List.map_cons, listI, intI_itoa (h z (by simp)), ih (fun y hy => h y (by simp [hy]))]
    rfl
/-- What a list of numbers reads as, as a call's results. -/
def ListPost (w : World) (m : Option (List Int)) (e : Ending) (w' : World) : Prop :=
  match m with
  | none => e = .returned (.tuple #[.slice none 0 0, .bool false]) ∧ Ext w w'
  | some zs => ∃ A' c', e = .returned (.tuple #[.slice A' zs.length c', .bool true]) ∧ OwnI 3 w' w.heap.size A' zs.length c' zs ∧ Ext w w'
theorem Sl.at_ {w : World} {B n k : Nat} {A : Option Addr} {xs : List (List UInt8)} {x : List UInt8} (h : Sl w B A n (strsX xs)) (hk : xs[k]? = some x) : ∃ b off, A = some ⟨b, off, none⟩ ∧ b < B ∧ w.cell? ⟨b, off + k, none⟩ = some (.string (bs x)) := by
  have hl := h.1
  have hk2 := (List.getElem?_eq_some_iff.1 hk).1
  rw [strsX, List.length_map] at hl
  obtain ⟨b, off, e, hb, hc⟩ := h.2 (by omega)
  exact ⟨b, off, e, hb, hc k _ (by rw [strsX, List.getElem?_map, hk]; rfl)⟩

set_option maxRecDepth 100000 in
set_option maxHeartbeats 2000000 in
theorem i.integersIn_m (w : World) (A : Option Addr) (n c B : Nat) (xs : List (List UInt8)) (h : Sl w B A n (strsX xs)) (hB : B ≤ w.heap.size) (hn : n ≤ 1048576) (hc : n ≤ c) (hc2 : c ≤ 9223372036854775807) (hx : ∀ x ∈ xs, x.length ≤ 1048576) :
    Calls Tryz.prog 48 #[.slice A n c] w fun e w' => ListPost w (listI xs) e w' := by
  have HL := hide h
  have HX := hide hx
  have hxn : Hid (xs.length = n) := by have := h.1; rw [strsX, List.length_map] at this; exact this
  clear h hx
  obtain ⟨R, hR⟩ : ∃ R, Hid (listI xs = R) := ⟨_, rfl⟩
  rw [hR.out]
  have O0 := hide (Own.empty w 3 (Nat.le_refl _))
  have X0 := hide (Ext.alloc w (.cells #[] 3))
  obtain ⟨w0, hw0⟩ : ∃ w0, Hid (w0 = w.alloc (.cells #[] 3)) := ⟨_, rfl⟩
  rw [← hw0.out] at O0 X0
  go_enter Tryz.func48, Tryz.ntmps48
  go_wp2
  rw [← hw0.out]
  clear hw0
  go_loopw [4, 12] (fun s4 s12 wr => ∃ (k : Nat) (A4 : Option Addr) (c4 : Nat) (zs : List Int), k ≤ n ∧ s12 = .int .i64 k ∧ s4 = .slice A4 k c4 ∧ listI (xs.take k) = some zs ∧ OwnI 3 wr w.heap.size A4 k c4 zs ∧ Ext w wr) (fun _ s12 _ => n - (intOf s12).toNat)
  case atStart => exact ⟨0, some ⟨w.heap.size, 0, none⟩, 0, [], Nat.zero_le _, rfl, rfl, rfl, O0.out, X0.out⟩
  case round =>
    clear O0 X0
    obtain ⟨k, A4, c4, zs, hk, rfl, rfl, hz, ho, hxx⟩ := hrel
    have HZ := hide hz
    have HO := hide ho
    have HW := hide hxx
    clear hz ho hxx
    by_cases hlt : k < n
    · obtain ⟨x, hxk⟩ : ∃ x, Hid (xs[k]? = some x) := ⟨_, List.getElem?_eq_getElem (by rw [hxn.out]; exact hlt)⟩
      obtain ⟨b, off, rfl, hb, q1⟩ := Sl.at_ (HL.out.below (HW.out.mono hB)) hxk.out
      have IT := hide (i.integer_m x wr (HX.out x (List.mem_of_getElem? hxk.out)))
      have iz : (k : Int) < (n : Int) := by omega
      have HS : Hid (listI (xs.take (k + 1)) = (intI x).map fun z => zs ++ [z]) := by
        show _ = _
        rw [List.take_add_one, hxk.out, Option.toList_some, listI_snoc, HZ.out]
        rfl
      have HM : Hid (x ∈ xs) := List.mem_of_getElem? hxk.out
      obtain ⟨m, hm⟩ : ∃ m, Hid (intI x = m) := ⟨_, rfl⟩
      rw [hm.out] at IT HS
      cases m with
      | none =>
        go_wp2_with fail
        refine IT.out.mono ?_
        rintro e w1 ⟨rfl, rfl⟩
        go_wp2
        go_ret2
        obtain rfl : R = none := by rw [← hR.out, listI_none HM.out hm.out]
        exact ⟨rfl, HW.out⟩
      | some z =>
        go_wp2_with fail
        refine IT.out.mono ?_
        rintro e w1 ⟨rfl, rfl⟩
        simp only [Option.getD_some, Option.isSome_some]
        clear q1
        go_wp2_with (at_builtin; refine wpList_append_sl rfl (.tmp 23) (.tmp 25) rfl elem_int rfl rfl (lo := w.heap.size) (Own.alloc HO.out (.cells #[.int .i64 z] 3)) (Sl.one wr (.int .i64 z) 3) (one_int _) (by omega) (by omega) (by have := HW.out.size; simp; omega) ?_)
        intro A5 c5 w5 hap
        have O5 := hide hap.own
        have X5 := hide (hap.ext (HW.out.trans (Ext.alloc _ _)) (Own.fromLo HO.out))
        clear hap
        go_wp2
        go_roundw
        case rel => exact ⟨k + 1, A5, c5, zs ++ [z], by omega, by go_num, rfl, HS.out, by have := O5.out; rwa [show zs.map (Value.int .i64) ++ [Value.int .i64 z] = (zs ++ [z]).map (Value.int .i64) by simp] at this, X5.out⟩
        case measure => simp [intOf]; omega
    · obtain rfl : k = n := by omega
      rw [List.take_of_length_le (by rw [hxn.out]; exact Nat.le_refl _)] at HZ
      obtain rfl : zs.length = k := HO.out.len
      go_wp2
      go_ret2
      obtain rfl : R = some zs := by rw [← hR.out, HZ.out]
      exact ⟨_, _, rfl, HO.out, HW.out⟩
end Go.Proofs.YtnokilofcdbjhaaGreatDoor
