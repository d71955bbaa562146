/- Numbers read: the program's and the reference's. (Printed by xj.py.) -/
import Derived.Test.YtnokilofcdbjhaaGreatDoorXI
import Derived.IntWalk
namespace Go.Proofs.YtnokilofcdbjhaaGreatDoor
open Go.RowKit Go.Sort
set_option linter.unusedVariables false
set_option linter.unusedSimpArgs false

theorem run_at (l : List UInt8) (i : Nat) (hi : i < l.length) (w : World) : (Instr.index 9 (.string (bs l)) (.int .i64 (i : Int))).run Tryz.prog w = .ok (.int .u8 ((l.getD i 0).toNat : Int)) w := by
  have h2 : i < (bs l).size := by rw [bsz]; exact hi
  rw [run_index_string w 9 (bs l) .i64 i Tryz.underlying9]
  have e : (bs l)[i] = l.getD i 0 := by
    show l.toArray[i]'(by simpa using hi) = _
    rw [List.getD_eq_getElem?_getD, List.getElem?_eq_getElem hi]
    simp
  rw [dif_pos ⟨by omega, by omega⟩]
  simp only [Int.toNat_natCast, e]
theorem plainX_zero {k : Nat} {l : List UInt8} (h1 : 1 < l.length) (hz : l.headD 0 = 48) : plainX k l = false := by
  rw [Bool.eq_false_iff]
  intro hp
  simp only [plainX, Bool.and_eq_true, Bool.or_eq_true, decide_eq_true_eq] at hp
  rcases hp.1.2 with h | h
  · omega
  · exact h hz
theorem plainX_dg {k : Nat} {l : List UInt8} {c : UInt8} (hm : c ∈ l) (hd : isDg c = false) : plainX k l = false := by
  rw [Bool.eq_false_iff]
  intro hp
  simp only [plainX, Bool.and_eq_true] at hp
  have := List.all_eq_true.1 hp.2 c hm
  rw [hd] at this
  cases this
theorem plainX_of {k : Nat} {l : List UInt8} (h0 : l ≠ []) (h1 : l.length ≤ k) (h2 : l.length ≤ 1 ∨ l.headD 0 ≠ 48) (h3 : l.all isDg = true) : plainX k l = true := by
  simp only [plainX, Bool.and_eq_true, Bool.or_eq_true, decide_eq_true_eq]
  exact ⟨⟨⟨h0, h1⟩, h2⟩, h3⟩
theorem natI_no {l : List UInt8} (h : plainX 12 l = false) : natI l = none := by unfold natI; rw [h]; rfl
theorem readS_no {l : List UInt8} (h : plainX 6 l = false) : readS l = -1 := by unfold readS; rw [h]; rfl
theorem emp_bs (l : List UInt8) : (bs l).toList = l := ByteArray.toList_mk l

set_option maxRecDepth 100000 in
set_option maxHeartbeats 4000000 in
theorem i.natural_m (l : List UInt8) (w : World) (hl : l.length ≤ 1048576) : Calls Tryz.prog 85 #[.string (bs l)] w fun e w' => e = .returned (.tuple #[.int .i64 ((natI l).getD 0 : Nat), .bool (natI l).isSome]) ∧ w = w' := by
  have hsz : (bs l).size = l.length := bsz l
  obtain ⟨R, hR⟩ : ∃ R, Hid (natI l = R) := ⟨_, rfl⟩
  rw [hR.out]
  by_cases h0 : l = []
  · subst h0
    obtain rfl : R = none := hR.out.symm
    have hemp : (bs []).toList.isEmpty = true := by rw [emp_bs]; rfl
    have hnil : (bs []).toList = [] := emp_bs []
    go_enter Tryz.func85, Tryz.ntmps85
    go_wp2
    go_ret2
    exact ⟨rfl, rfl⟩
  · have hemp : (bs l).toList.isEmpty = false := by rw [emp_bs]; simpa using h0
    have hnil : ¬ (bs l).toList = [] := by rw [emp_bs]; exact h0
    have h0' : 0 < l.length := List.length_pos_iff.2 h0
    by_cases h12 : 12 < l.length
    · have h12' : (12 : Int) < l.length := by omega
      obtain rfl : R = none := by rw [← hR.out]; simp [natI, plainX]; omega
      go_enter Tryz.func85, Tryz.ntmps85
      go_wp2
      go_ret2
      exact ⟨rfl, rfl⟩
    have h12' : ¬ (12 : Int) < l.length := by omega
    by_cases hz : 1 < l.length ∧ l.headD 0 = 48
    · obtain ⟨h1, hz⟩ := hz
      have h1' : (1 : Int) < l.length := by omega
      obtain rfl : R = none := by rw [← hR.out]; exact natI_no (plainX_zero h1 hz)
      have hix : ∀ w : World, (Instr.index 9 (.string (bs l)) (.int .i64 0)).run Tryz.prog w = .ok (.int .u8 48) w := fun w => by
        have := run_at l 0 h0' w
        rw [show l.getD 0 0 = 48 by cases l with | nil => exact absurd rfl h0 | cons c t => exact hz] at this
        exact this
      go_enter Tryz.func85, Tryz.ntmps85
      go_wp2
      go_ret2
      exact ⟨rfl, rfl⟩
    · have HP : Hid ((l.length ≤ 1 ∨ l.headD 0 ≠ 48)) := by
        show _ ∨ _
        rcases Nat.lt_or_ge 1 l.length with h | h
        · exact .inr fun e => hz ⟨h, e⟩
        · exact .inl h
      obtain ⟨c0, hc0⟩ : ∃ c, Hid (l.headD 0 = c) := ⟨_, rfl⟩
      have hix : ∀ w : World, (Instr.index 9 (.string (bs l)) (.int .i64 0)).run Tryz.prog w = .ok (.int .u8 (c0.toNat : Int)) w := fun w => by
        have := run_at l 0 h0' w
        rw [show l.getD 0 0 = c0 by cases l with | nil => exact absurd rfl h0 | cons c t => exact hc0.out] at this
        exact this
      have hz1 : 1 < l.length → ((c0.toNat : Int) == 48) = false := fun h => by
        have : c0 ≠ 48 := fun e => hz ⟨h, hc0.out.trans e⟩
        have h2 : c0.toNat ≠ 48 := fun e => this (UInt8.toNat_inj.1 e)
        simpa using fun e : (c0.toNat : Int) = 48 => h2 (by omega)
      rcases Nat.lt_or_ge 1 l.length with h1 | h1
      · have h1' : (1 : Int) < l.length := by omega
        have hz := hz1 h1
        clear hz1
        have H0 : Hid (valX (l.take 0) = 0) := rfl
        have HA0 : Hid ((l.take 0).all isDg = true) := rfl
        have IX : Hid (∀ (i : Nat), i < l.length → ∀ w : World, (Instr.index 9 (.string (bs l)) (.int .i64 (i : Int))).run Tryz.prog w = .ok (.int .u8 ((l.getD i 0).toNat : Int)) w) := fun i hi w => run_at l i hi w
        go_enter Tryz.func85, Tryz.ntmps85
        go_wp2
        go_loopw [4, 5] (fun s4 s5 wr => ∃ k : Nat, k ≤ l.length ∧ s5 = .int .i64 k ∧ s4 = .int .i64 (valX (l.take k) : Nat) ∧ (l.take k).all isDg = true ∧ w = wr) (fun _ s5 _ => l.length - (intOf s5).toNat)
        case atStart => exact ⟨0, Nat.zero_le _, by go_num, by rw [H0.out]; rfl, HA0.out, rfl⟩
        case round =>
          clear hix h0' hz
          obtain ⟨k, hk, rfl, rfl, ha, rfl⟩ := hrel
          have HA := hide ha
          clear ha
          by_cases hlt : k < l.length
          · have hix := IX.out k hlt
            have hvk := valX_lt (l.take k) HA.out
            rw [List.length_take, Nat.min_eq_left hk] at hvk
            have hp : 10 ^ k ≤ 10 ^ 12 := Nat.pow_le_pow_right (by omega) (by omega)
            have HC : Hid (l[k]? = some (l.getD k 0)) := by show _ = _; rw [List.getD_eq_getElem?_getD, List.getElem?_eq_getElem hlt]; rfl
            obtain ⟨c, hc⟩ : ∃ c, Hid (l.getD k 0 = c) := ⟨_, rfl⟩
            rw [hc.out] at hix HC
            have HS : Hid (l.take (k + 1) = l.take k ++ [c]) := by show _ = _; rw [List.take_add_one, HC.out]; rfl
            have HV : Hid (valX (l.take (k + 1)) = 10 * valX (l.take k) + (c.toNat - 48)) := by show _ = _; rw [HS.out, valX_snoc]
            have HM : Hid (c ∈ l) := List.mem_of_getElem? HC.out
            have cr : c.toNat < 256 := UInt8.toNat_lt c
            obtain ⟨V, hV⟩ : ∃ V, Hid (valX (l.take k) = V) := ⟨_, rfl⟩
            rw [hV.out] at hvk HV ⊢
            have iz : (k : Int) < (l.length : Int) := by omega
            have v0 : (V : Int) ≤ 1000000000000 := by
              have : V < 10 ^ 12 := Nat.lt_of_lt_of_le hvk hp
              have e : (10 : Nat) ^ 12 = 1000000000000 := rfl
              omega
            clear hvk hp
            by_cases c1 : c.toNat < 48
            · have c1' : (c.toNat : Int) < 48 := by omega
              have HD : Hid (isDg c = false) := by
                show _ = _
                simp only [isDg, Bool.and_eq_false_iff, decide_eq_false_iff_not, UInt8.le_iff_toNat_le]
                left
                have a : (48 : UInt8).toNat = 48 := rfl
                omega
              go_wp2
              (go_ret2; exact ⟨by rw [show R = none by rw [← hR.out]; exact natI_no (plainX_dg HM.out HD.out)]; rfl, rfl⟩)
            · by_cases c2 : 57 < c.toNat
              · have c1' : ¬ (c.toNat : Int) < 48 := by omega
                have c2' : (57 : Int) < (c.toNat : Int) := by omega
                have HD : Hid (isDg c = false) := by
                  show _ = _
                  simp only [isDg, Bool.and_eq_false_iff, decide_eq_false_iff_not, UInt8.le_iff_toNat_le]
                  right
                  have a : (57 : UInt8).toNat = 57 := rfl
                  omega
                go_wp2
                (go_ret2; exact ⟨by rw [show R = none by rw [← hR.out]; exact natI_no (plainX_dg HM.out HD.out)]; rfl, rfl⟩)
              · have c1' : ¬ (c.toNat : Int) < 48 := by omega
                have c2' : ¬ (57 : Int) < (c.toNat : Int) := by omega
                have HD : Hid (isDg c = true) := by
                  show _ = _
                  simp only [isDg, Bool.and_eq_true, decide_eq_true_eq, UInt8.le_iff_toNat_le]
                  have a : (57 : UInt8).toNat = 57 := rfl
                  have b : (48 : UInt8).toNat = 48 := rfl
                  omega
                have e1 : IntKind.u8.wrap ((c.toNat : Int) - 48) = (c.toNat : Int) - 48 := by unfold IntKind.wrap; simp [IntKind.bits, IntKind.signed]; omega
                go_wp2
                go_roundw
                case rel => exact ⟨k + 1, by omega, by go_num, by rw [HV.out]; congr 1; omega, by rw [HS.out, List.all_append, HA.out]; simpa using HD.out, (by first | trivial | rfl)⟩
                case measure => simp [intOf]; omega
          · obtain rfl : k = l.length := by omega
            rw [List.take_length] at HA ⊢
            go_wp2
            (go_ret2; exact ⟨by rw [show R = some (valX l) by rw [← hR.out, natI, if_pos (plainX_of h0 (by omega) HP.out HA.out)]]; rfl, (by first | rfl | trivial)⟩)
      · have h1' : ¬ (1 : Int) < l.length := by omega
        have hz := h1
        clear hz1
        have H0 : Hid (valX (l.take 0) = 0) := rfl
        have HA0 : Hid ((l.take 0).all isDg = true) := rfl
        have IX : Hid (∀ (i : Nat), i < l.length → ∀ w : World, (Instr.index 9 (.string (bs l)) (.int .i64 (i : Int))).run Tryz.prog w = .ok (.int .u8 ((l.getD i 0).toNat : Int)) w) := fun i hi w => run_at l i hi w
        go_enter Tryz.func85, Tryz.ntmps85
        go_wp2
        go_loopw [4, 5] (fun s4 s5 wr => ∃ k : Nat, k ≤ l.length ∧ s5 = .int .i64 k ∧ s4 = .int .i64 (valX (l.take k) : Nat) ∧ (l.take k).all isDg = true ∧ w = wr) (fun _ s5 _ => l.length - (intOf s5).toNat)
        case atStart => exact ⟨0, Nat.zero_le _, by go_num, by rw [H0.out]; rfl, HA0.out, rfl⟩
        case round =>
          clear hix h0' hz
          obtain ⟨k, hk, rfl, rfl, ha, rfl⟩ := hrel
          have HA := hide ha
          clear ha
          by_cases hlt : k < l.length
          · have hix := IX.out k hlt
            have hvk := valX_lt (l.take k) HA.out
            rw [List.length_take, Nat.min_eq_left hk] at hvk
            have hp : 10 ^ k ≤ 10 ^ 12 := Nat.pow_le_pow_right (by omega) (by omega)
            have HC : Hid (l[k]? = some (l.getD k 0)) := by show _ = _; rw [List.getD_eq_getElem?_getD, List.getElem?_eq_getElem hlt]; rfl
            obtain ⟨c, hc⟩ : ∃ c, Hid (l.getD k 0 = c) := ⟨_, rfl⟩
            rw [hc.out] at hix HC
            have HS : Hid (l.take (k + 1) = l.take k ++ [c]) := by show _ = _; rw [List.take_add_one, HC.out]; rfl
            have HV : Hid (valX (l.take (k + 1)) = 10 * valX (l.take k) + (c.toNat - 48)) := by show _ = _; rw [HS.out, valX_snoc]
            have HM : Hid (c ∈ l) := List.mem_of_getElem? HC.out
            have cr : c.toNat < 256 := UInt8.toNat_lt c
            obtain ⟨V, hV⟩ : ∃ V, Hid (valX (l.take k) = V) := ⟨_, rfl⟩
            rw [hV.out] at hvk HV ⊢
            have iz : (k : Int) < (l.length : Int) := by omega
            have v0 : (V : Int) ≤ 1000000000000 := by
              have : V < 10 ^ 12 := Nat.lt_of_lt_of_le hvk hp
              have e : (10 : Nat) ^ 12 = 1000000000000 := rfl
              omega
            clear hvk hp
            by_cases c1 : c.toNat < 48
            · have c1' : (c.toNat : Int) < 48 := by omega
              have HD : Hid (isDg c = false) := by
                show _ = _
                simp only [isDg, Bool.and_eq_false_iff, decide_eq_false_iff_not, UInt8.le_iff_toNat_le]
                left
                have a : (48 : UInt8).toNat = 48 := rfl
                omega
              go_wp2
              (go_ret2; exact ⟨by rw [show R = none by rw [← hR.out]; exact natI_no (plainX_dg HM.out HD.out)]; rfl, rfl⟩)
            · by_cases c2 : 57 < c.toNat
              · have c1' : ¬ (c.toNat : Int) < 48 := by omega
                have c2' : (57 : Int) < (c.toNat : Int) := by omega
                have HD : Hid (isDg c = false) := by
                  show _ = _
                  simp only [isDg, Bool.and_eq_false_iff, decide_eq_false_iff_not, UInt8.le_iff_toNat_le]
                  right
                  have a : (57 : UInt8).toNat = 57 := rfl
                  omega
                go_wp2
                (go_ret2; exact ⟨by rw [show R = none by rw [← hR.out]; exact natI_no (plainX_dg HM.out HD.out)]; rfl, rfl⟩)
              · have c1' : ¬ (c.toNat : Int) < 48 := by omega
                have c2' : ¬ (57 : Int) < (c.toNat : Int) := by omega
                have HD : Hid (isDg c = true) := by
                  show _ = _
                  simp only [isDg, Bool.and_eq_true, decide_eq_true_eq, UInt8.le_iff_toNat_le]
                  have a : (57 : UInt8).toNat = 57 := rfl
                  have b : (48 : UInt8).toNat = 48 := rfl
                  omega
                have e1 : IntKind.u8.wrap ((c.toNat : Int) - 48) = (c.toNat : Int) - 48 := by unfold IntKind.wrap; simp [IntKind.bits, IntKind.signed]; omega
                go_wp2
                go_roundw
                case rel => exact ⟨k + 1, by omega, by go_num, by rw [HV.out]; congr 1; omega, by rw [HS.out, List.all_append, HA.out]; simpa using HD.out, (by first | trivial | rfl)⟩
                case measure => simp [intOf]; omega
          · obtain rfl : k = l.length := by omega
            rw [List.take_length] at HA ⊢
            go_wp2
            (go_ret2; exact ⟨by rw [show R = some (valX l) by rw [← hR.out, natI, if_pos (plainX_of h0 (by omega) HP.out HA.out)]]; rfl, (by first | rfl | trivial)⟩)
set_option maxRecDepth 100000 in
set_option maxHeartbeats 4000000 in
theorem s.l1Read_m (l : List UInt8) (w : World) (hl : l.length ≤ 1048576) : Calls Tryz.prog 73 #[.string (bs l)] w fun e w' => e = .returned (.int .i64 (readS l)) ∧ w = w' := by
  have hsz : (bs l).size = l.length := bsz l
  obtain ⟨R, hR⟩ : ∃ R, Hid (readS l = R) := ⟨_, rfl⟩
  rw [hR.out]
  by_cases h12 : l.length < 1 ∨ 6 < l.length
  · have IN : Hid (inB 1 6 (l.length : Int) = false) := by show _ = _; simp only [inB, Bool.and_eq_false_iff, decide_eq_false_iff_not]; omega
    obtain rfl : R = -1 := by
      rw [← hR.out]
      apply readS_no
      rw [Bool.eq_false_iff]
      intro hp
      simp only [plainX, Bool.and_eq_true, decide_eq_true_eq] at hp
      have := List.length_pos_iff.2 hp.1.1.1
      omega
    go_enter Tryz.func73, Tryz.ntmps73
    go_wp2_with (go_at_call 63; refine (s.l1In_any _ _ _ _).mono ?_; rintro e w2 ⟨rfl, rfl⟩; rw [IN.out])
    go_ret
    exact ⟨rfl, rfl⟩
  have IN : Hid (inB 1 6 (l.length : Int) = true) := by show _ = _; simp only [inB, Bool.and_eq_true, decide_eq_true_eq]; omega
  have h0' : 0 < l.length := by omega
  have h0 : l ≠ [] := List.length_pos_iff.1 h0'
  by_cases hz : 1 < l.length ∧ l.headD 0 = 48
  · obtain ⟨h1, hz⟩ := hz
    have h1' : (1 : Int) < l.length := by omega
    obtain rfl : R = -1 := by rw [← hR.out]; exact readS_no (plainX_zero h1 hz)
    have hix : ∀ w : World, (Instr.index 9 (.string (bs l)) (.int .i64 0)).run Tryz.prog w = .ok (.int .u8 48) w := fun w => by
      have := run_at l 0 h0' w
      rw [show l.getD 0 0 = 48 by cases l with | nil => exact absurd rfl h0 | cons c t => exact hz] at this
      exact this
    go_enter Tryz.func73, Tryz.ntmps73
    go_wp2_with (go_at_call 63; refine (s.l1In_any _ _ _ _).mono ?_; rintro e w2 ⟨rfl, rfl⟩; rw [IN.out])
    go_ret
    exact ⟨rfl, rfl⟩
  · have HP : Hid ((l.length ≤ 1 ∨ l.headD 0 ≠ 48)) := by
      show _ ∨ _
      rcases Nat.lt_or_ge 1 l.length with h | h
      · exact .inr fun e => hz ⟨h, e⟩
      · exact .inl h
    obtain ⟨c0, hc0⟩ : ∃ c, Hid (l.headD 0 = c) := ⟨_, rfl⟩
    have hix : ∀ w : World, (Instr.index 9 (.string (bs l)) (.int .i64 0)).run Tryz.prog w = .ok (.int .u8 (c0.toNat : Int)) w := fun w => by
      have := run_at l 0 h0' w
      rw [show l.getD 0 0 = c0 by cases l with | nil => exact absurd rfl h0 | cons c t => exact hc0.out] at this
      exact this
    have hz1 : 1 < l.length → ((c0.toNat : Int) == 48) = false := fun h => by
      have : c0 ≠ 48 := fun e => hz ⟨h, hc0.out.trans e⟩
      have h2 : c0.toNat ≠ 48 := fun e => this (UInt8.toNat_inj.1 e)
      simpa using fun e : (c0.toNat : Int) = 48 => h2 (by omega)
    rcases Nat.lt_or_ge 1 l.length with h1 | h1
    · have h1' : (1 : Int) < l.length := by omega
      have hz := hz1 h1
      clear hz1
      have H0 : Hid (valX (l.take 0) = 0) := rfl
      have HA0 : Hid ((l.take 0).all isDg = true) := rfl
      have IX : Hid (∀ (i : Nat), i < l.length → ∀ w : World, (Instr.index 9 (.string (bs l)) (.int .i64 (i : Int))).run Tryz.prog w = .ok (.int .u8 ((l.getD i 0).toNat : Int)) w) := fun i hi w => run_at l i hi w
      go_enter Tryz.func73, Tryz.ntmps73
      go_wp2_with (go_at_call 63; refine (s.l1In_any _ _ _ _).mono ?_; rintro e w2 ⟨rfl, rfl⟩; rw [IN.out])
      go_loopw [3, 4] (fun s4 s5 wr => ∃ k : Nat, k ≤ l.length ∧ s5 = .int .i64 k ∧ s4 = .int .i64 (valX (l.take k) : Nat) ∧ (l.take k).all isDg = true ∧ w = wr) (fun _ s5 _ => l.length - (intOf s5).toNat)
      case atStart => exact ⟨0, Nat.zero_le _, by go_num, by rw [H0.out]; rfl, HA0.out, rfl⟩
      case round =>
        clear hix h0' hz
        obtain ⟨k, hk, rfl, rfl, ha, rfl⟩ := hrel
        have HA := hide ha
        clear ha
        by_cases hlt : k < l.length
        · have hix := IX.out k hlt
          have hvk := valX_lt (l.take k) HA.out
          rw [List.length_take, Nat.min_eq_left hk] at hvk
          have hp : 10 ^ k ≤ 10 ^ 12 := Nat.pow_le_pow_right (by omega) (by omega)
          have HC : Hid (l[k]? = some (l.getD k 0)) := by show _ = _; rw [List.getD_eq_getElem?_getD, List.getElem?_eq_getElem hlt]; rfl
          obtain ⟨c, hc⟩ : ∃ c, Hid (l.getD k 0 = c) := ⟨_, rfl⟩
          rw [hc.out] at hix HC
          have HS : Hid (l.take (k + 1) = l.take k ++ [c]) := by show _ = _; rw [List.take_add_one, HC.out]; rfl
          have HV : Hid (valX (l.take (k + 1)) = 10 * valX (l.take k) + (c.toNat - 48)) := by show _ = _; rw [HS.out, valX_snoc]
          have HM : Hid (c ∈ l) := List.mem_of_getElem? HC.out
          have cr : c.toNat < 256 := UInt8.toNat_lt c
          obtain ⟨V, hV⟩ : ∃ V, Hid (valX (l.take k) = V) := ⟨_, rfl⟩
          rw [hV.out] at hvk HV ⊢
          have iz : (k : Int) < (l.length : Int) := by omega
          have v0 : (V : Int) ≤ 1000000000000 := by
            have : V < 10 ^ 12 := Nat.lt_of_lt_of_le hvk hp
            have e : (10 : Nat) ^ 12 = 1000000000000 := rfl
            omega
          clear hvk hp
          by_cases c1 : c.toNat < 48
          · have c1' : (c.toNat : Int) < 48 := by omega
            have HD : Hid (isDg c = false) := by
              show _ = _
              simp only [isDg, Bool.and_eq_false_iff, decide_eq_false_iff_not, UInt8.le_iff_toNat_le]
              left
              have a : (48 : UInt8).toNat = 48 := rfl
              omega
            go_wp2
            (go_ret; exact ⟨by rw [show R = -1 by rw [← hR.out]; exact readS_no (plainX_dg HM.out HD.out)]; rfl, (by first | rfl | trivial)⟩)
          · by_cases c2 : 57 < c.toNat
            · have c1' : ¬ (c.toNat : Int) < 48 := by omega
              have c2' : (57 : Int) < (c.toNat : Int) := by omega
              have HD : Hid (isDg c = false) := by
                show _ = _
                simp only [isDg, Bool.and_eq_false_iff, decide_eq_false_iff_not, UInt8.le_iff_toNat_le]
                right
                have a : (57 : UInt8).toNat = 57 := rfl
                omega
              go_wp2
              (go_ret; exact ⟨by rw [show R = -1 by rw [← hR.out]; exact readS_no (plainX_dg HM.out HD.out)]; rfl, (by first | rfl | trivial)⟩)
            · have c1' : ¬ (c.toNat : Int) < 48 := by omega
              have c2' : ¬ (57 : Int) < (c.toNat : Int) := by omega
              have HD : Hid (isDg c = true) := by
                show _ = _
                simp only [isDg, Bool.and_eq_true, decide_eq_true_eq, UInt8.le_iff_toNat_le]
                have a : (57 : UInt8).toNat = 57 := rfl
                have b : (48 : UInt8).toNat = 48 := rfl
                omega
              have e1 : IntKind.u8.wrap ((c.toNat : Int) - 48) = (c.toNat : Int) - 48 := by unfold IntKind.wrap; simp [IntKind.bits, IntKind.signed]; omega
              go_wp2
              go_roundw
              case rel => exact ⟨k + 1, by omega, by go_num, by rw [HV.out]; congr 1; omega, by rw [HS.out, List.all_append, HA.out]; simpa using HD.out, (by first | trivial | rfl)⟩
              case measure => simp [intOf]; omega
        · obtain rfl : k = l.length := by omega
          rw [List.take_length] at HA ⊢
          go_wp2
          (go_ret; exact ⟨by rw [show R = (valX l : Int) by rw [← hR.out, readS, if_pos (plainX_of h0 (by omega) HP.out HA.out)]]; rfl, (by first | rfl | trivial)⟩)
    · have h1' : ¬ (1 : Int) < l.length := by omega
      clear hz1 hz
      have hz := h1
      rcases hb : ((c0.toNat : Int) == 48) with _ | _
      · have HB := hide hb
        have H0 : Hid (valX (l.take 0) = 0) := rfl
        have HA0 : Hid ((l.take 0).all isDg = true) := rfl
        have IX : Hid (∀ (i : Nat), i < l.length → ∀ w : World, (Instr.index 9 (.string (bs l)) (.int .i64 (i : Int))).run Tryz.prog w = .ok (.int .u8 ((l.getD i 0).toNat : Int)) w) := fun i hi w => run_at l i hi w
        go_enter Tryz.func73, Tryz.ntmps73
        go_wp2_with (go_at_call 63; refine (s.l1In_any _ _ _ _).mono ?_; rintro e w2 ⟨rfl, rfl⟩; rw [IN.out])
        go_loopw [3, 4] (fun s4 s5 wr => ∃ k : Nat, k ≤ l.length ∧ s5 = .int .i64 k ∧ s4 = .int .i64 (valX (l.take k) : Nat) ∧ (l.take k).all isDg = true ∧ w = wr) (fun _ s5 _ => l.length - (intOf s5).toNat)
        case atStart => exact ⟨0, Nat.zero_le _, by go_num, by rw [H0.out]; rfl, HA0.out, rfl⟩
        case round =>
          clear hix h0' hz
          obtain ⟨k, hk, rfl, rfl, ha, rfl⟩ := hrel
          have HA := hide ha
          clear ha
          by_cases hlt : k < l.length
          · have hix := IX.out k hlt
            have hvk := valX_lt (l.take k) HA.out
            rw [List.length_take, Nat.min_eq_left hk] at hvk
            have hp : 10 ^ k ≤ 10 ^ 12 := Nat.pow_le_pow_right (by omega) (by omega)
            have HC : Hid (l[k]? = some (l.getD k 0)) := by show _ = _; rw [List.getD_eq_getElem?_getD, List.getElem?_eq_getElem hlt]; rfl
            obtain ⟨c, hc⟩ : ∃ c, Hid (l.getD k 0 = c) := ⟨_, rfl⟩
            rw [hc.out] at hix HC
            have HS : Hid (l.take (k + 1) = l.take k ++ [c]) := by show _ = _; rw [List.take_add_one, HC.out]; rfl
            have HV : Hid (valX (l.take (k + 1)) = 10 * valX (l.take k) + (c.toNat - 48)) := by show _ = _; rw [HS.out, valX_snoc]
            have HM : Hid (c ∈ l) := List.mem_of_getElem? HC.out
            have cr : c.toNat < 256 := UInt8.toNat_lt c
            obtain ⟨V, hV⟩ : ∃ V, Hid (valX (l.take k) = V) := ⟨_, rfl⟩
            rw [hV.out] at hvk HV ⊢
            have iz : (k : Int) < (l.length : Int) := by omega
            have v0 : (V : Int) ≤ 1000000000000 := by
              have : V < 10 ^ 12 := Nat.lt_of_lt_of_le hvk hp
              have e : (10 : Nat) ^ 12 = 1000000000000 := rfl
              omega
            clear hvk hp
            by_cases c1 : c.toNat < 48
            · have c1' : (c.toNat : Int) < 48 := by omega
              have HD : Hid (isDg c = false) := by
                show _ = _
                simp only [isDg, Bool.and_eq_false_iff, decide_eq_false_iff_not, UInt8.le_iff_toNat_le]
                left
                have a : (48 : UInt8).toNat = 48 := rfl
                omega
              go_wp2
              (go_ret; exact ⟨by rw [show R = -1 by rw [← hR.out]; exact readS_no (plainX_dg HM.out HD.out)]; rfl, (by first | rfl | trivial)⟩)
            · by_cases c2 : 57 < c.toNat
              · have c1' : ¬ (c.toNat : Int) < 48 := by omega
                have c2' : (57 : Int) < (c.toNat : Int) := by omega
                have HD : Hid (isDg c = false) := by
                  show _ = _
                  simp only [isDg, Bool.and_eq_false_iff, decide_eq_false_iff_not, UInt8.le_iff_toNat_le]
                  right
                  have a : (57 : UInt8).toNat = 57 := rfl
                  omega
                go_wp2
                (go_ret; exact ⟨by rw [show R = -1 by rw [← hR.out]; exact readS_no (plainX_dg HM.out HD.out)]; rfl, (by first | rfl | trivial)⟩)
              · have c1' : ¬ (c.toNat : Int) < 48 := by omega
                have c2' : ¬ (57 : Int) < (c.toNat : Int) := by omega
                have HD : Hid (isDg c = true) := by
                  show _ = _
                  simp only [isDg, Bool.and_eq_true, decide_eq_true_eq, UInt8.le_iff_toNat_le]
                  have a : (57 : UInt8).toNat = 57 := rfl
                  have b : (48 : UInt8).toNat = 48 := rfl
                  omega
                have e1 : IntKind.u8.wrap ((c.toNat : Int) - 48) = (c.toNat : Int) - 48 := by unfold IntKind.wrap; simp [IntKind.bits, IntKind.signed]; omega
                go_wp2
                go_roundw
                case rel => exact ⟨k + 1, by omega, by go_num, by rw [HV.out]; congr 1; omega, by rw [HS.out, List.all_append, HA.out]; simpa using HD.out, (by first | trivial | rfl)⟩
                case measure => simp [intOf]; omega
          · obtain rfl : k = l.length := by omega
            rw [List.take_length] at HA ⊢
            go_wp2
            (go_ret; exact ⟨by rw [show R = (valX l : Int) by rw [← hR.out, readS, if_pos (plainX_of h0 (by omega) HP.out HA.out)]]; rfl, (by first | rfl | trivial)⟩)
      · have HB := hide hb
        have H0 : Hid (valX (l.take 0) = 0) := rfl
        have HA0 : Hid ((l.take 0).all isDg = true) := rfl
        have IX : Hid (∀ (i : Nat), i < l.length → ∀ w : World, (Instr.index 9 (.string (bs l)) (.int .i64 (i : Int))).run Tryz.prog w = .ok (.int .u8 ((l.getD i 0).toNat : Int)) w) := fun i hi w => run_at l i hi w
        go_enter Tryz.func73, Tryz.ntmps73
        go_wp2_with (go_at_call 63; refine (s.l1In_any _ _ _ _).mono ?_; rintro e w2 ⟨rfl, rfl⟩; rw [IN.out])
        go_loopw [3, 4] (fun s4 s5 wr => ∃ k : Nat, k ≤ l.length ∧ s5 = .int .i64 k ∧ s4 = .int .i64 (valX (l.take k) : Nat) ∧ (l.take k).all isDg = true ∧ w = wr) (fun _ s5 _ => l.length - (intOf s5).toNat)
        case atStart => exact ⟨0, Nat.zero_le _, by go_num, by rw [H0.out]; rfl, HA0.out, rfl⟩
        case round =>
          clear hix h0' hz
          obtain ⟨k, hk, rfl, rfl, ha, rfl⟩ := hrel
          have HA := hide ha
          clear ha
          by_cases hlt : k < l.length
          · have hix := IX.out k hlt
            have hvk := valX_lt (l.take k) HA.out
            rw [List.length_take, Nat.min_eq_left hk] at hvk
            have hp : 10 ^ k ≤ 10 ^ 12 := Nat.pow_le_pow_right (by omega) (by omega)
            have HC : Hid (l[k]? = some (l.getD k 0)) := by show _ = _; rw [List.getD_eq_getElem?_getD, List.getElem?_eq_getElem hlt]; rfl
            obtain ⟨c, hc⟩ : ∃ c, Hid (l.getD k 0 = c) := ⟨_, rfl⟩
            rw [hc.out] at hix HC
            have HS : Hid (l.take (k + 1) = l.take k ++ [c]) := by show _ = _; rw [List.take_add_one, HC.out]; rfl
            have HV : Hid (valX (l.take (k + 1)) = 10 * valX (l.take k) + (c.toNat - 48)) := by show _ = _; rw [HS.out, valX_snoc]
            have HM : Hid (c ∈ l) := List.mem_of_getElem? HC.out
            have cr : c.toNat < 256 := UInt8.toNat_lt c
            obtain ⟨V, hV⟩ : ∃ V, Hid (valX (l.take k) = V) := ⟨_, rfl⟩
            rw [hV.out] at hvk HV ⊢
            have iz : (k : Int) < (l.length : Int) := by omega
            have v0 : (V : Int) ≤ 1000000000000 := by
              have : V < 10 ^ 12 := Nat.lt_of_lt_of_le hvk hp
              have e : (10 : Nat) ^ 12 = 1000000000000 := rfl
              omega
            clear hvk hp
            by_cases c1 : c.toNat < 48
            · have c1' : (c.toNat : Int) < 48 := by omega
              have HD : Hid (isDg c = false) := by
                show _ = _
                simp only [isDg, Bool.and_eq_false_iff, decide_eq_false_iff_not, UInt8.le_iff_toNat_le]
                left
                have a : (48 : UInt8).toNat = 48 := rfl
                omega
              go_wp2
              (go_ret; exact ⟨by rw [show R = -1 by rw [← hR.out]; exact readS_no (plainX_dg HM.out HD.out)]; rfl, (by first | rfl | trivial)⟩)
            · by_cases c2 : 57 < c.toNat
              · have c1' : ¬ (c.toNat : Int) < 48 := by omega
                have c2' : (57 : Int) < (c.toNat : Int) := by omega
                have HD : Hid (isDg c = false) := by
                  show _ = _
                  simp only [isDg, Bool.and_eq_false_iff, decide_eq_false_iff_not, UInt8.le_iff_toNat_le]
                  right
                  have a : (57 : UInt8).toNat = 57 := rfl
                  omega
                go_wp2
                (go_ret; exact ⟨by rw [show R = -1 by rw [← hR.out]; exact readS_no (plainX_dg HM.out HD.out)]; rfl, (by first | rfl | trivial)⟩)
              · have c1' : ¬ (c.toNat : Int) < 48 := by omega
                have c2' : ¬ (57 : Int) < (c.toNat : Int) := by omega
                have HD : Hid (isDg c = true) := by
                  show _ = _
                  simp only [isDg, Bool.and_eq_true, decide_eq_true_eq, UInt8.le_iff_toNat_le]
                  have a : (57 : UInt8).toNat = 57 := rfl
                  have b : (48 : UInt8).toNat = 48 := rfl
                  omega
                have e1 : IntKind.u8.wrap ((c.toNat : Int) - 48) = (c.toNat : Int) - 48 := by unfold IntKind.wrap; simp [IntKind.bits, IntKind.signed]; omega
                go_wp2
                go_roundw
                case rel => exact ⟨k + 1, by omega, by go_num, by rw [HV.out]; congr 1; omega, by rw [HS.out, List.all_append, HA.out]; simpa using HD.out, (by first | trivial | rfl)⟩
                case measure => simp [intOf]; omega
          · obtain rfl : k = l.length := by omega
            rw [List.take_length] at HA ⊢
            go_wp2
            (go_ret; exact ⟨by rw [show R = (valX l : Int) by rw [← hR.out, readS, if_pos (plainX_of h0 (by omega) HP.out HA.out)]]; rfl, (by first | rfl | trivial)⟩)
end Go.Proofs.YtnokilofcdbjhaaGreatDoor
