/- Lines; a text split: both. -/
import Derived.Test.YtnokilofcdbjhaaGreatDoorXL
namespace Go.Proofs.YtnokilofcdbjhaaGreatDoor
open Go.RowKit Go.Sort
set_option linter.unusedVariables false

theorem bs_ext {x y : ByteArray} (h : x.data.toList = y.data.toList) : x = y := by
  apply ByteArray.ext
  exact Array.toList_inj.mp h
theorem bs_extract (l : List UInt8) (a b : Nat) : (bs l).extract a b = bs ((l.drop a).take (b - a)) := bs_ext (by rw [Lib.extract_data]; rfl)
theorem slice_fromX (l : List UInt8) (i : Nat) (hi : i ≤ l.length) (w : World) : (Instr.slice 9 (.string (bs l)) (some (.int .i64 (i : Int))) none none).run Tryz.prog w = .ok (.string (bs (l.drop i))) w := by
  rw [run_slice_string_from_if w 9 (bs l) .i64 i Tryz.underlying9, if_pos ⟨by omega, by rw [bsz]; omega⟩, Int.toNat_natCast, bs_extract, bsz]
  rw [List.take_of_length_le (by rw [List.length_drop]; omega)]
theorem slice_toX (l : List UInt8) (i : Nat) (hi : i ≤ l.length) (w : World) : (Instr.slice 9 (.string (bs l)) none (some (.int .i64 (i : Int))) none).run Tryz.prog w = .ok (.string (bs (l.take i))) w := by
  rw [run_slice_string_to_if w 9 (bs l) .i64 i Tryz.underlying9, if_pos ⟨by omega, by rw [bsz]; omega⟩, Int.toNat_natCast, bs_extract]
  rfl
theorem slice_midX (l : List UInt8) (i j : Nat) (hi : i ≤ j) (hj : j ≤ l.length) (w : World) : (Instr.slice 9 (.string (bs l)) (some (.int .i64 (i : Int))) (some (.int .i64 (j : Int))) none).run Tryz.prog w = .ok (.string (bs ((l.drop i).take (j - i)))) w := by
  rw [run_slice_string w 9 (bs l) .i64 .i64 i j Tryz.underlying9 (by omega) (by omega) (by rw [bsz]; omega), Int.toNat_natCast, Int.toNat_natCast, bs_extract]

/-- The lines that the program reads, if the text ends with a line's end. -/
def linesF (s : List UInt8) : Option (List (List UInt8)) := if s = [] then some [] else if s.getLastD 0 = 10 then some (splitX 10 s.dropLast) else none
def LinesPost (w : World) (m : Option (List (List UInt8))) (e : Ending) (w' : World) : Prop :=
  match m with
  | none => e = .returned (.tuple #[.slice none 0 0, .bool false]) ∧ Ext w w'
  | some ls => ∃ A, e = .returned (.tuple #[.slice A ls.length ls.length, .bool true]) ∧ Sl w' w'.heap.size A ls.length (strsX ls) ∧ Ext w w'
theorem Sl.block (w : World) (vs : List Value) (t : TypeId) : Sl (w.alloc (.cells vs.toArray t)) (w.alloc (.cells vs.toArray t)).heap.size (some ⟨w.heap.size, 0, none⟩) vs.length vs :=
  ⟨rfl, fun _ => ⟨w.heap.size, 0, rfl, by simp, fun k u hk => by rw [Nat.zero_add, World.cell?_alloc_at _ _ _ _ rfl]; simpa using hk⟩⟩
def MaxLenIs (w : World) : Prop := ∃ m, w.cell? ⟨0, 0, none⟩ = some (.int .i64 m)

set_option maxRecDepth 100000 in
set_option maxHeartbeats 2000000 in
theorem i.linesOf_m (s : List UInt8) (w : World) (hl : s.length ≤ 1048576) (hm : MaxLenIs w) : Calls Tryz.prog 45 #[.string (bs s)] w fun e w' => LinesPost w (linesF s) e w' := by
  have hsz : (bs s).size = s.length := bsz s
  obtain ⟨R, hR⟩ : ∃ R, Hid (linesF s = R) := ⟨_, rfl⟩
  rw [hR.out]
  by_cases h0 : s = []
  · subst h0
    obtain rfl : R = some [] := hR.out.symm
    have hemp : (bs []).toList.isEmpty = true := by rw [emp_bs]; rfl
    have hnil : (bs []).toList = [] := emp_bs []
    go_enter Tryz.func45, Tryz.ntmps45
    go_wp2
    go_ret2
    exact ⟨_, rfl, Sl.nil, Ext.alloc _ _⟩
  · have hemp : (bs s).toList.isEmpty = false := by rw [emp_bs]; simpa using h0
    have hnil : ¬ (bs s).toList = [] := by rw [emp_bs]; exact h0
    have h0' : 0 < s.length := List.length_pos_iff.2 h0
    have hlast : s.getD (s.length - 1) 0 = s.getLastD 0 := by
      rw [List.getD_eq_getElem?_getD, ← List.getLast?_eq_getElem?, List.getLastD_eq_getLast?]
    obtain ⟨c, hc⟩ : ∃ c, Hid (s.getLastD 0 = c) := ⟨_, rfl⟩
    rw [hc.out] at hlast
    have e1 : ((s.length : Int) - 1) = ((s.length - 1 : Nat) : Int) := by omega
    have hix : ∀ w : World, (Instr.index 9 (.string (bs s)) (.int .i64 ((s.length : Int) - 1))).run Tryz.prog w = .ok (.int .u8 (c.toNat : Int)) w := fun w => by
      rw [e1]
      have := run_at s (s.length - 1) (by omega) w
      rwa [hlast] at this
    have hsl : ∀ w : World, (Instr.slice 9 (.string (bs s)) none (some (.int .i64 ((s.length : Int) - 1))) none).run Tryz.prog w = .ok (.string (bs s.dropLast)) w := fun w => by
      rw [e1]
      have := slice_toX s (s.length - 1) (by omega) w
      rwa [← List.dropLast_eq_take] at this
    clear e1 hlast
    by_cases hcc : c = 10
    · subst hcc
      obtain rfl : R = some (splitX 10 s.dropLast) := by rw [← hR.out, linesF, if_neg h0, if_pos hc.out]
      obtain ⟨m, hm⟩ := hm
      have SP := hide (i.split_m s.dropLast 10 m w (by rw [List.length_dropLast]; omega) hm)
      clear hm
      have hb : (((10 : UInt8).toNat : Int) != 10) = false := rfl
      go_enter Tryz.func45, Tryz.ntmps45
      go_wp2_with fail
      refine SP.out.mono ?_
      rintro e w1 ⟨rfl, rfl⟩
      go_wp2
      go_ret2
      refine ⟨_, rfl, ?_, Ext.alloc _ _⟩
      have := Sl.block w (strsX (splitX 10 s.dropLast)) 9
      rwa [show (strsX (splitX 10 s.dropLast)).length = (splitX 10 s.dropLast).length by simp [strsX]] at this
    · obtain rfl : R = none := by rw [← hR.out, linesF, if_neg h0, if_neg (fun e => hcc (hc.out.symm.trans e))]
      have hb : ((c.toNat : Int) != 10) = true := by
        have h2 : c.toNat ≠ 10 := fun e => hcc (UInt8.toNat_inj.1 e)
        simpa using fun e : (c.toNat : Int) = 10 => h2 (by omega)
      go_enter Tryz.func45, Tryz.ntmps45
      go_wp2
      go_ret2
      exact ⟨rfl, Ext.refl _⟩

set_option maxRecDepth 100000 in
set_option maxHeartbeats 2000000 in
theorem s.mkNumber_m (l : List UInt8) (w : World) (hl : l.length ≤ 1048576) : Calls Tryz.prog 50 #[.string (bs l)] w fun e w' => e = .returned (.int .i64 (numS l)) ∧ w = w' := by
  have hsz : (bs l).size = l.length := bsz l
  obtain ⟨R, hR⟩ : ∃ R, Hid (numS l = R) := ⟨_, rfl⟩
  rw [hR.out]
  by_cases hm : ∃ c r, l = 45 :: c :: r
  · obtain ⟨c, r, rfl⟩ := hm
    have hl1 : (1 : Int) < ((45 :: c :: r : List UInt8).length : Int) := by simp only [List.length_cons]; omega
    have hix : ∀ w : World, (Instr.index 9 (.string (bs (45 :: c :: r))) (.int .i64 0)).run Tryz.prog w = .ok (.int .u8 45) w := fun w => run_at (45 :: c :: r) 0 (by simp) w
    have hsl : ∀ w : World, (Instr.slice 9 (.string (bs (45 :: c :: r))) (some (.int .i64 1)) none none).run Tryz.prog w = .ok (.string (bs (c :: r))) w := fun w => slice_fromX (45 :: c :: r) 1 (by simp) w
    have RD := hide (s.l1Read_m (c :: r) w (by simp at hl ⊢; omega))
    obtain ⟨z, hz⟩ : ∃ z, Hid (readS (c :: r) = z) := ⟨_, rfl⟩
    rw [hz.out] at RD
    have HR : Hid (R = if 0 ≤ z then -z else 9999) := by show _ = _; rw [← hR.out, ← hz.out]; rfl
    have zl : z ≤ 1000000 ∧ -1 ≤ z := by
      rw [← hz.out]
      unfold readS
      split
      · next hp =>
        have h1 := plainX_iff hp
        simp only [plainX, Bool.and_eq_true, decide_eq_true_eq] at hp
        have := valX_lt _ hp.2
        have h2 : 10 ^ (c :: r).length ≤ 10 ^ 6 := Nat.pow_le_pow_right (by omega) h1.2
        have e : (10 : Nat) ^ 6 = 1000000 := rfl
        omega
      · omega
    obtain ⟨n, hn⟩ : ∃ n, Hid ((45 :: c :: r : List UInt8).length = n) := ⟨_, rfl⟩
    rw [hn.out] at hsz hl1
    generalize bs (45 :: c :: r) = B1 at *
    generalize bs (c :: r) = B2 at *
    clear hR hz hl
    by_cases h0 : 0 ≤ z
    · rw [if_pos h0] at HR
      go_enter Tryz.func50, Tryz.ntmps50
      go_wp2_with fail
      refine RD.out.mono ?_
      rintro e w1 ⟨rfl, rfl⟩
      have e1 : IntKind.i64.wrap (-1 * z) = -z := by rw [IntWalk.i64_in _ (by omega)]; omega
      go_wp2
      go_ret
      exact ⟨by rw [HR.out]; first | rfl | simp, rfl⟩
    · rw [if_neg h0] at HR
      go_enter Tryz.func50, Tryz.ntmps50
      go_wp2_with fail
      refine RD.out.mono ?_
      rintro e w1 ⟨rfl, rfl⟩
      go_wp2
      go_ret
      exact ⟨by rw [HR.out]; rfl, rfl⟩
  · have hcase : ¬ (1 < l.length ∧ l.headD 0 = 45) := by
      rintro ⟨h1, h2⟩
      cases l with
      | nil => simp at h1
      | cons a t =>
        cases t with
        | nil => simp at h1
        | cons c r => exact hm ⟨c, r, by rw [show a = 45 from h2]⟩
    have RD := hide (s.l1Read_m l w hl)
    obtain ⟨z, hz⟩ : ∃ z, Hid (readS l = z) := ⟨_, rfl⟩
    rw [hz.out] at RD
    have HR : Hid (R = if 0 ≤ z then z else 9999) := by
      show _ = _
      rw [← hR.out, ← hz.out]
      unfold numS
      split
      · next c r => exact absurd ⟨c, r, rfl⟩ hm
      · rfl
    have zl : z ≤ 1000000 ∧ -1 ≤ z := by
      rw [← hz.out]
      unfold readS
      split
      · next hp =>
        have h1 := plainX_iff hp
        simp only [plainX, Bool.and_eq_true, decide_eq_true_eq] at hp
        have := valX_lt _ hp.2
        have h2 : 10 ^ l.length ≤ 10 ^ 6 := Nat.pow_le_pow_right (by omega) h1.2
        have e : (10 : Nat) ^ 6 = 1000000 := rfl
        omega
      · omega
    have hix : 1 < l.length → ∃ c : UInt8, ((c.toNat : Int) == 45) = false ∧ ∀ w : World, (Instr.index 9 (.string (bs l)) (.int .i64 0)).run Tryz.prog w = .ok (.int .u8 (c.toNat : Int)) w := fun h => by
      refine ⟨l.getD 0 0, ?_, fun w => run_at l 0 (by omega) w⟩
      have : l.getD 0 0 ≠ 45 := fun e => hcase ⟨h, by cases l with | nil => simp at h | cons a t => exact e⟩
      have h2 : (l.getD 0 0).toNat ≠ 45 := fun e => this (UInt8.toNat_inj.1 e)
      simpa using fun e : ((l.getD 0 0).toNat : Int) = 45 => h2 (by omega)
    clear hR hz hcase hm
    rcases Nat.lt_or_ge 1 l.length with h1 | h1
    · obtain ⟨c, hc, hix⟩ := hix h1
      have h1' : (1 : Int) < l.length := by omega
      by_cases h0 : 0 ≤ z
      · rw [if_pos h0] at HR
        have e1 : IntKind.i64.wrap (1 * z) = z := by rw [IntWalk.i64_in _ (by omega)]; omega
        go_enter Tryz.func50, Tryz.ntmps50
        go_wp2_with fail
        refine RD.out.mono ?_
        rintro e w1 ⟨rfl, rfl⟩
        go_wp2
        go_ret
        exact ⟨by rw [HR.out]; first | rfl | simp, rfl⟩
      · rw [if_neg h0] at HR
        go_enter Tryz.func50, Tryz.ntmps50
        go_wp2_with fail
        refine RD.out.mono ?_
        rintro e w1 ⟨rfl, rfl⟩
        go_wp2
        go_ret
        exact ⟨by rw [HR.out]; rfl, rfl⟩
    · clear hix
      have h1' : ¬ (1 : Int) < l.length := by omega
      by_cases h0 : 0 ≤ z
      · rw [if_pos h0] at HR
        go_enter Tryz.func50, Tryz.ntmps50
        go_wp2_with fail
        refine RD.out.mono ?_
        rintro e w1 ⟨rfl, rfl⟩
        have e1 : IntKind.i64.wrap (1 * z) = z := by rw [IntWalk.i64_in _ (by omega)]; omega
        go_wp2
        go_ret
        exact ⟨by rw [HR.out]; first | rfl | simp, rfl⟩
      · rw [if_neg h0] at HR
        go_enter Tryz.func50, Tryz.ntmps50
        go_wp2_with fail
        refine RD.out.mono ?_
        rintro e w1 ⟨rfl, rfl⟩
        go_wp2
        go_ret
        exact ⟨by rw [HR.out]; rfl, rfl⟩
end Go.Proofs.YtnokilofcdbjhaaGreatDoor
