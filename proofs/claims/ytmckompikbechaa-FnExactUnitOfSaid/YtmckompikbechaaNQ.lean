/- Names and items: what the program and the reference call valid. -/
import Derived.Test.YtmckompikbechaaNP
import Derived.Test.YtmckompikbechaaNC
namespace Go.Proofs.Ytmckompikbechaa
open Go.RowKit Go.Sort
set_option linter.unusedVariables false

theorem bs_get (x : List UInt8) (k : Nat) (h : k < (bs x).size) (y : UInt8) (hy : x[k]? = some y) : (bs x)[k]'h = y := by
  obtain ⟨hk, rfl⟩ := List.getElem?_eq_some_iff.1 hy
  rfl
theorem s.itByte_any (b : UInt8) (w : World) : Calls Try.prog 191 #[.int .u8 b.toNat] w fun e w' => e = .returned (.bool (nameByte b)) ∧ w = w' := by
  have hb := b.toNat_lt
  unfold nameByte
  generalize b.toNat = n at *
  go_enter Try.func191, Try.ntmps191
  go_wp2
  all_goals go_ret
  all_goals refine ⟨ret_bool ?_, rfl⟩
  all_goals rw [Bool.eq_iff_iff]
  all_goals simp
  all_goals omega

set_option maxHeartbeats 1000000 in
theorem i.IsElementName_any (x : List UInt8) (w : World) (hx : x.length ≤ 9223372036854775807) : Calls Try.prog 135 #[.string (bs x)] w fun e w' => e = .returned (.bool (nameB x)) ∧ w = w' := by
  obtain ⟨n, hn⟩ : ∃ n, Hid (x.length = n) := ⟨_, rfl⟩
  have hz : (bs x).size = n := by rw [bs_size, hn.out]
  rw [hn.out] at hx
  have GET := hide (bs_get x)
  have HZ := hide hz
  clear hz
  obtain ⟨sb, hs⟩ : ∃ sb, Hid (bs x = sb) := ⟨_, rfl⟩
  rw [hs.out] at GET HZ ⊢
  have hz := HZ.out
  go_enter Try.func135, Try.ntmps135
  go_wp2
  go_loop [3] (fun i => ∃ k : Nat, k ≤ n ∧ i = .int .i64 k ∧ (x.take k).all nameByte = true) (fun i => n - (intOf i).toNat)
  case atStart => exact ⟨0, Nat.zero_le _, rfl, rfl⟩
  case round =>
    obtain ⟨k, hk, rfl, hall⟩ := hrel
    have H := hide hall; clear hall
    by_cases hlt : k < n
    · obtain ⟨y, hy⟩ : ∃ y, Hid (x[k]? = some y) := ⟨_, List.getElem?_eq_getElem (by rw [hn.out]; exact hlt)⟩
      go_wp2_with (go_at_call 191; refine (s.itByte_any _ _).mono ?_; rintro e w' ⟨rfl, rfl⟩)
      all_goals have e := GET.out k (by omega) y hy.out
      all_goals try simp only [e] at *
      all_goals first
        | (go_ret
           refine ⟨ret_bool ?_, rfl⟩
           have hb : nameByte y = false := by first | (unfold nameByte; simp; omega) | exact not_t (by assumption)
           rw [nameB, allL_stop hy.out hb]; rfl)
        | (go_round
           case rel =>
             have hb : nameByte y = true := by first | (unfold nameByte; simp; omega) | exact not_f (by assumption)
             exact ⟨k + 1, by omega, by go_num, allL_step hy.out H.out hb⟩
           case measure => simp [intOf]; omega)
    · go_wp2_with (go_at_call 74; refine (i.within_any _ _ _ _).mono ?_; rintro e w' ⟨rfl, rfl⟩)
      go_ret
      exact ⟨ret_bool (by rw [nameB, allL_end (by rw [hn.out]; omega) H.out, hn.out]; simp), rfl⟩

set_option maxHeartbeats 1000000 in
theorem s.itName_any (x : List UInt8) (w : World) (hx : x.length ≤ 9223372036854775807) : Calls Try.prog 180 #[.string (bs x)] w fun e w' => e = .returned (.bool (nameB x)) ∧ w = w' := by
  obtain ⟨n, hn⟩ : ∃ n, Hid (x.length = n) := ⟨_, rfl⟩
  have hz : (bs x).size = n := by rw [bs_size, hn.out]
  rw [hn.out] at hx
  have GET := hide (bs_get x)
  have HZ := hide hz
  clear hz
  obtain ⟨sb, hs⟩ : ∃ sb, Hid (bs x = sb) := ⟨_, rfl⟩
  rw [hs.out] at GET HZ ⊢
  have hz := HZ.out
  go_enter Try.func180, Try.ntmps180
  go_wp2
  go_loop [3] (fun i => ∃ k : Nat, k ≤ n ∧ i = .int .i64 k ∧ (x.take k).all nameByte = true) (fun i => n - (intOf i).toNat)
  case atStart => exact ⟨0, Nat.zero_le _, rfl, rfl⟩
  case round =>
    obtain ⟨k, hk, rfl, hall⟩ := hrel
    have H := hide hall; clear hall
    by_cases hlt : k < n
    · obtain ⟨y, hy⟩ : ∃ y, Hid (x[k]? = some y) := ⟨_, List.getElem?_eq_getElem (by rw [hn.out]; exact hlt)⟩
      go_wp2_with (go_at_call 191; refine (s.itByte_any _ _).mono ?_; rintro e w' ⟨rfl, rfl⟩)
      all_goals have e := GET.out k (by omega) y hy.out
      all_goals try simp only [e] at *
      all_goals first
        | (go_ret
           refine ⟨ret_bool ?_, rfl⟩
           have hb : nameByte y = false := by first | (unfold nameByte; simp; omega) | exact not_t (by assumption)
           rw [nameB, allL_stop hy.out hb]; rfl)
        | (go_round
           case rel =>
             have hb : nameByte y = true := by first | (unfold nameByte; simp; omega) | exact not_f (by assumption)
             exact ⟨k + 1, by omega, by go_num, allL_step hy.out H.out hb⟩
           case measure => simp [intOf]; omega)
    · go_wp2_with (go_at_call 68; refine (s.l1In_any _ _ _ _).mono ?_; rintro e w' ⟨rfl, rfl⟩)
      go_ret
      exact ⟨ret_bool (by rw [nameB, allL_end (by rw [hn.out]; omega) H.out, hn.out]; simp), rfl⟩
theorem i.IsName_any (x : List UInt8) (w : World) (hx : x.length ≤ 9223372036854775807) : Calls Try.prog 160 #[.string (bs x)] w fun e w' => e = .returned (.bool (nameB x)) ∧ w = w' := by
  generalize hs : bs x = sb
  go_enter Try.func160, Try.ntmps160
  go_wp2_with (go_at_call 135; rw [← hs]; refine (i.IsElementName_any x _ hx).mono ?_; rintro e w' ⟨rfl, rfl⟩)
  go_ret
  exact ⟨rfl, rfl⟩
end Go.Proofs.Ytmckompikbechaa
