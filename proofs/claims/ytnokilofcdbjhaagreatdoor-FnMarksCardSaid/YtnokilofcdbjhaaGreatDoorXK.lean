/- Numbers with a sign read; a list of numbers; lines: the program's. -/
import Derived.Test.YtnokilofcdbjhaaGreatDoorXJ
namespace Go.Proofs.YtnokilofcdbjhaaGreatDoor
open Go.RowKit Go.Sort
set_option linter.unusedVariables false

theorem natI_lt {l : List UInt8} {n : Nat} (h : natI l = some n) : n < 1000000000000 := by
  unfold natI at h
  split at h
  · next hp =>
    cases h
    have h1 := plainX_iff hp
    simp only [plainX, Bool.and_eq_true, decide_eq_true_eq] at hp
    have := valX_lt l hp.2
    have h2 : 10 ^ l.length ≤ 10 ^ 12 := Nat.pow_le_pow_right (by omega) h1.2
    have e : (10 : Nat) ^ 12 = 1000000000000 := rfl
    omega
  · cases h
theorem i.cut_m (l : List UInt8) (w : World) : Calls Tryz.prog 84 #[.string (bs l), .string ⟨#[45]⟩] w fun e w' => (∃ r, l = 45 :: r ∧ e = .returned (.tuple #[.string (bs r), .bool true]) ∨ (∀ r, l ≠ 45 :: r) ∧ e = .returned (.tuple #[.string (bs l), .bool false])) ∧ w = w' := by
  refine (strings_CutPrefix (bs l) ⟨#[45]⟩ w).mono fun e w' ⟨h1, h2⟩ => ⟨?_, h2.symm⟩
  have e1 : (bs l).data.toList = l := rfl
  have e2 : (⟨#[45]⟩ : ByteArray).data.toList = [45] := rfl
  rw [e1, e2] at h1
  cases l with
  | nil => exact ⟨[], .inr ⟨fun r => by simp, h1⟩⟩
  | cons c t =>
    by_cases hc : c = 45
    · subst hc
      refine ⟨t, .inl ⟨rfl, ?_⟩⟩
      rw [h1]
      simp [Lib.trimPrefix, Lib.hasPrefix, List.isPrefixOf, bs]
    · refine ⟨t, .inr ⟨fun r e => hc (by simpa using (List.cons.inj e).1), ?_⟩⟩
      rw [h1]
      have : Lib.hasPrefix (c :: t) [45] = false := by simp [Lib.hasPrefix, List.isPrefixOf, Ne.symm hc]
      simp [Lib.trimPrefix, this, bs]

set_option maxRecDepth 100000 in
set_option maxHeartbeats 2000000 in
theorem i.integer_m (l : List UInt8) (w : World) (hl : l.length ≤ 1048576) : Calls Tryz.prog 72 #[.string (bs l)] w fun e w' => e = .returned (.tuple #[.int .i64 ((intI l).getD 0), .bool (intI l).isSome]) ∧ w = w' := by
  obtain ⟨R, hR⟩ : ∃ R, Hid (intI l = R) := ⟨_, rfl⟩
  rw [hR.out]
  go_enter Tryz.func72, Tryz.ntmps72
  go_wp2_with fail
  refine (i.cut_m l _).mono ?_
  rintro e w1 ⟨⟨r, ⟨rfl, rfl⟩ | ⟨hn, rfl⟩⟩, rfl⟩
  · have N := hide (i.natural_m r w (by simp at hl; omega))
    obtain ⟨m, hm⟩ : ∃ m, Hid (natI r = m) := ⟨_, rfl⟩
    rw [hm.out] at N
    have HR : Hid (R = m.bind fun n => if n = 0 then none else some (-(n : Int))) := by show _ = _; rw [← hR.out, ← hm.out]; rfl
    cases m with
    | none =>
      obtain rfl : R = none := HR.out
      clear HR hR
      go_wp2_with fail
      refine N.out.mono ?_
      rintro e w2 ⟨rfl, rfl⟩
      go_wp2
      go_ret2
      exact ⟨rfl, rfl⟩
    | some n =>
      have hlt := natI_lt hm.out
      by_cases h0 : n = 0
      · subst h0
        obtain rfl : R = none := HR.out
        clear HR hR
        go_wp2_with fail
        refine N.out.mono ?_
        rintro e w2 ⟨rfl, rfl⟩
        go_wp2
        go_ret2
        exact ⟨rfl, rfl⟩
      · obtain rfl : R = some (-(n : Int)) := by rw [HR.out, Option.bind_some, if_neg h0]
        have h0' : ((n : Int) == 0) = false := by simp; omega
        have e1 : IntKind.i64.wrap (-(n : Int)) = -(n : Int) := IntWalk.i64_in _ (by omega)
        clear HR hR
        go_wp2_with fail
        refine N.out.mono ?_
        rintro e w2 ⟨rfl, rfl⟩
        simp only [Option.getD_some, Option.isSome_some]
        go_wp2
        go_ret2
        exact ⟨rfl, rfl⟩
  · have N := hide (i.natural_m l w hl)
    obtain ⟨m, hm⟩ : ∃ m, Hid (natI l = m) := ⟨_, rfl⟩
    rw [hm.out] at N
    have HR : Hid (R = Option.map (fun n : Nat => (n : Int)) m) := by show _ = _; rw [← hR.out, intI_plain hn, hm.out]
    clear hn
    cases m with
    | none =>
      obtain rfl : R = none := HR.out
      clear HR hR
      go_wp2_with fail
      refine N.out.mono ?_
      rintro e w2 ⟨rfl, rfl⟩
      go_wp2
      go_ret2
      exact ⟨rfl, rfl⟩
    | some n =>
      obtain rfl : R = some (n : Int) := HR.out
      clear HR hR
      go_wp2_with fail
      refine N.out.mono ?_
      rintro e w2 ⟨rfl, rfl⟩
      simp only [Option.getD_some, Option.isSome_some]
      go_wp2
      go_ret2
      exact ⟨rfl, rfl⟩
end Go.Proofs.YtnokilofcdbjhaaGreatDoor
