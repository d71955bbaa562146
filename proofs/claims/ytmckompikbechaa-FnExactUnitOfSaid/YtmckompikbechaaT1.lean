import Derived.Test.YtmckompikbechaaRows
import Derived.Test.YtmckompikbechaaWords
namespace Go.Proofs.Ytmckompikbechaa
open Go.RowKit

def inB (lo hi n : Int) : Bool := decide (lo ≤ n) && decide (n ≤ hi)
theorem inB_no {lo hi n : Int} (h : n < lo) : inB lo hi n = false := by simp [inB]; omega

theorem i.within_any (n lo hi : Int) (w : World) :
    Calls Try.prog 74 #[.int .i64 n, .int .i64 lo, .int .i64 hi] w fun e w' => e = .returned (.bool (inB lo hi n)) ∧ w = w' := by
  go_enter Try.func74, Try.ntmps74
  go_wp2
  all_goals go_ret
  · exact ⟨by simp_all [inB], rfl⟩
  · exact ⟨ret_bool (inB_no ‹_›).symm, rfl⟩

theorem s.l1In_any (n lo hi : Int) (w : World) :
    Calls Try.prog 68 #[.int .i64 n, .int .i64 lo, .int .i64 hi] w fun e w' => e = .returned (.bool (inB lo hi n)) ∧ w = w' := by
  go_enter Try.func68, Try.ntmps68
  go_wp2
  all_goals go_ret
  · exact ⟨by simp_all [inB], rfl⟩
  · exact ⟨ret_bool (inB_no ‹_›).symm, rfl⟩

theorem all_step {f : Int → Bool} {zs : List Int} {k : Nat} (hk : k < zs.length) (h : (zs.take k).all f = true) (h1 : f (zs.getD k 0) = true) : (zs.take (k + 1)).all f = true := by
  rw [take_succ_getD k hk, List.all_append, h]; simpa using h1
theorem all_stop {f : Int → Bool} {zs : List Int} {k : Nat} (hk : k < zs.length) (h1 : f (zs.getD k 0) = false) : zs.all f = false := by
  rw [List.all_eq_false]
  exact ⟨zs[k], List.getElem_mem hk, by simp_all⟩
theorem all_end {f : Int → Bool} {zs : List Int} {k : Nat} (hk : ¬ k < zs.length) (h : (zs.take k).all f = true) : zs.all f = true := by
  rwa [List.take_of_length_le (by omega)] at h

theorem i.allWithin_any (A : Option Addr) (n c B : Nat) (zs : List Int) (lo hi : Int) (w : World) (h : SlI w B A n zs) (hn : n ≤ 1048576) :
    Calls Try.prog 116 #[.slice A n c, .int .i64 lo, .int .i64 hi] w fun e w' => e = .returned (.bool (zs.all (inB lo hi))) ∧ w = w' := by
  go_enter Try.func116, Try.ntmps116
  go_wp2
  go_loop [8, 11] (fun _ i => ∃ k : Nat, k ≤ n ∧ i = .int .i64 k ∧ (zs.take k).all (inB lo hi) = true) (fun _ i => n - (intOf i).toNat)
  case atStart => exact ⟨0, Nat.zero_le _, rfl, rfl⟩
  case round =>
    obtain ⟨k, hk, rfl, hall⟩ := hrel
    have H := hide hall; clear hall
    have hl := hide h.len
    by_cases hlt : k < n
    · obtain ⟨b, off, rfl, hb, hc⟩ := h.cells (by omega)
      have hck := hc k hlt
      clear hc
      go_wp2_with (go_at_call 74; refine (i.within_any _ _ _ _).mono ?_; rintro e w' ⟨rfl, rfl⟩)
      · go_ret
        exact ⟨ret_bool (all_stop (k := k) (by have := hl.out; omega) (not_t (by assumption))).symm, rfl⟩
      · go_round
        case rel => exact ⟨k + 1, by omega, by go_num, all_step (by have := hl.out; omega) H.out (not_f (by assumption))⟩
        case measure => simp [intOf]; omega
    · go_wp2
      go_ret
      exact ⟨ret_bool (all_end (by have := hl.out; omega) H.out).symm, rfl⟩

theorem s.l1All_any (A : Option Addr) (n c B : Nat) (zs : List Int) (lo hi : Int) (w : World) (h : SlI w B A n zs) (hn : n ≤ 1048576) :
    Calls Try.prog 114 #[.slice A n c, .int .i64 lo, .int .i64 hi] w fun e w' => e = .returned (.bool (zs.all (inB lo hi))) ∧ w = w' := by
  go_enter Try.func114, Try.ntmps114
  go_wp2
  go_loop [8, 11] (fun _ i => ∃ k : Nat, k ≤ n ∧ i = .int .i64 k ∧ (zs.take k).all (inB lo hi) = true) (fun _ i => n - (intOf i).toNat)
  case atStart => exact ⟨0, Nat.zero_le _, rfl, rfl⟩
  case round =>
    obtain ⟨k, hk, rfl, hall⟩ := hrel
    have H := hide hall; clear hall
    have hl := hide h.len
    by_cases hlt : k < n
    · obtain ⟨b, off, rfl, hb, hc⟩ := h.cells (by omega)
      have hck := hc k hlt
      clear hc
      go_wp2_with (go_at_call 68; refine (s.l1In_any _ _ _ _).mono ?_; rintro e w' ⟨rfl, rfl⟩)
      · go_ret
        exact ⟨ret_bool (all_stop (k := k) (by have := hl.out; omega) (not_t (by assumption))).symm, rfl⟩
      · go_round
        case rel => exact ⟨k + 1, by omega, by go_num, all_step (by have := hl.out; omega) H.out (not_f (by assumption))⟩
        case measure => simp [intOf]; omega
    · go_wp2
      go_ret
      exact ⟨ret_bool (all_end (by have := hl.out; omega) H.out).symm, rfl⟩

end Go.Proofs.Ytmckompikbechaa
