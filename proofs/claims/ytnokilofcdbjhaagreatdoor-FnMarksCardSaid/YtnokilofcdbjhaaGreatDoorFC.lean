/- The laws' own sums and searches of numbers. -/
import Derived.Test.YtnokilofcdbjhaaGreatDoorES
namespace Go.Proofs.YtnokilofcdbjhaaGreatDoor
open Go.RowKit Go.Sort
set_option linter.unusedVariables false

theorem take_has (zs : List Int) (r : Int) (k : Nat) (h : k < zs.length) : (zs.take (k + 1)).contains r = ((zs.take k).contains r || (zs.getD k 0 == r)) := by
  rw [List.take_succ_eq_append_getElem h, Bool.eq_iff_iff, List.contains_iff_mem, Bool.or_eq_true, List.contains_iff_mem, List.mem_append, List.mem_singleton, beq_iff_eq, List.getD_eq_getElem?_getD, List.getElem?_eq_getElem h]
  exact ⟨fun q => q.imp id Eq.symm, fun q => q.imp id Eq.symm⟩
theorem has_take (zs : List Int) (r : Int) (k : Nat) (h : (zs.take k).contains r = true) : zs.contains r = true := by
  rw [List.contains_iff_mem] at h ⊢
  exact List.mem_of_mem_take h
theorem sumQ_take (zs : List Int) (k : Nat) (hk : k < zs.length) : (zs.take (k + 1)).sum = (zs.take k).sum + zs.getD k 0 := by
  rw [List.take_succ_eq_append_getElem hk, List.sum_append]
  simp [List.getD_eq_getElem?_getD, hk]
theorem sumQ_bd (zs : List Int) (h : Small zs) (k : Nat) : -1000000000 * (k : Int) ≤ (zs.take k).sum ∧ (zs.take k).sum ≤ 1000000000 * (k : Int) := by
  induction k with
  | zero => simp
  | succ k ih =>
    by_cases hk : k < zs.length
    · rw [sumQ_take zs k hk]
      have h1 : zs.getD k 0 ∈ zs := by simp [List.getD_eq_getElem?_getD, hk]
      have h2 := h _ h1
      omega
    · rw [List.take_of_length_le (by omega)] at ih ⊢
      omega
set_option maxHeartbeats 1000000 in
theorem l.qSum_m (A : Option Addr) (n c B : Nat) (zs : List Int) (w : World) (h : SlI w B A n zs) (hn : n ≤ 1048576) (hz : Small zs) :
    Calls Tryz.prog 24 #[.slice A n c] w fun e w' => e = .returned (.int .i64 zs.sum) ∧ w' = w := by
  have HL := hide h.len
  have HW := hide h
  have BD := hide (sumQ_bd zs hz)
  have ST := hide (sumQ_take zs)
  have TA : Hid ((zs.take n).sum = zs.sum) := by show _ = _; rw [List.take_of_length_le (by have := h.len; omega)]
  clear h hz
  go_enter Tryz.func24, Tryz.ntmps24
  go_wp2
  go_loopw [8, 3] (fun i s wr => ∃ k : Nat, k ≤ n ∧ i = .int .i64 k ∧ s = .int .i64 (zs.take k).sum ∧ wr = w) (fun i _ _ => n - (intOf i).toNat)
  case atStart => exact ⟨0, Nat.zero_le _, rfl, by simp, rfl⟩
  case round =>
    obtain ⟨k, hk, rfl, rfl, rfl⟩ := hrel
    have bk := BD.out k
    by_cases hlt : k < n
    · obtain ⟨b, off, rfl, hb, hc⟩ := HW.out.cells (by omega)
      have hck := hc k hlt
      have st := hide (ST.out k (by rw [HL.out]; exact hlt))
      have bz := BD.out (k + 1)
      rw [st.out] at bz
      have i1 : (k : Int) < n := by omega
      obtain ⟨s0, hs0⟩ : ∃ s0, Hid ((zs.take k).sum = s0) := ⟨_, rfl⟩
      rw [hs0.out] at bk bz st ⊢
      generalize zs.getD k 0 = y at *
      clear hc
      go_wp2
      go_roundw
      case rel => exact ⟨k + 1, by omega, by go_num, by rw [st.out], by first | rfl | trivial⟩
      case measure => simp [intOf]; omega
    · obtain rfl : k = n := by omega
      rw [TA.out]
      go_wp2
      go_ret
      exact ⟨rfl, rfl⟩
end Go.Proofs.YtnokilofcdbjhaaGreatDoor
