import Derived.Test.YtmckompikbechaaT4
import Derived.Test.YtmckompikbechaaPA
import Derived.Deep.QuietTactic
import Derived.BigQuiet
namespace Go.Proofs.Ytmckompikbechaa
open Go.RowKit

theorem i.sumInts_any (A : Option Addr) (n c B : Nat) (zs : List Int) (w : World) (h : SlI w B A n zs) (hn : n ≤ 1048576) (hz : Small zs) :
    Calls Try.prog 102 #[.slice A n c] w fun e w' => e = .returned (.int .i64 zs.sum) ∧ w = w' := by
  have HZ := hide hz
  have hl := hide h.len
  clear hz
  go_enter Try.func102, Try.ntmps102
  go_wp2
  go_loop [3, 5, 8] (fun s _ i => ∃ k : Nat, k ≤ n ∧ i = .int .i64 k ∧ s = .int .i64 (zs.take k).sum) (fun _ _ i => n - (intOf i).toNat)
  case atStart => exact ⟨0, Nat.zero_le _, rfl, rfl⟩
  case round =>
    obtain ⟨k, hk, rfl, rfl⟩ := hrel
    obtain ⟨hb1, hb1'⟩ := sum_take_bound zs k n HZ.out hk hn
    obtain ⟨hb2, hb2'⟩ := HZ.out.getD k
    by_cases hlt : k < n
    · obtain ⟨b, off, rfl, hb, hc⟩ := h.cells (by omega)
      have hck := hc k hlt
      have hs := hide (sum_take_succ zs k (by have := hl.out; omega))
      clear hc
      generalize zs.getD k 0 = x at *
      go_wp2
      go_round
      case rel => exact ⟨k + 1, by omega, by go_num, by rw [hs.out]⟩
      case measure => simp [intOf]; omega
    · go_wp2
      go_ret
      exact ⟨ret_int (sum_take_all zs k (by have := hl.out; omega)), rfl⟩

theorem slicesMax_any (A : Option Addr) (n c B : Nat) (zs : List Int) (w : World) (h : SlI w B A n zs) (hn : n ≤ 1048576) (h0 : 0 < n) :
    Calls Try.prog 143 #[.slice A n c] w fun e w' => e = .returned (.int .i64 (maxL zs)) ∧ w = w' := by
  have hl := hide h.len
  obtain ⟨b, off, rfl, hb, hc⟩ := h.cells h0
  have hc0 : w.cell? ⟨b, off, none⟩ = some (.int .i64 (zs.getD 0 0)) := by simpa using hc 0 h0
  have HC := hide hc
  clear hc h
  go_enter Try.func143, Try.ntmps143
  go_wp2
  go_loop [3, 4] (fun s i => ∃ k : Nat, 1 ≤ k ∧ k ≤ n ∧ i = .int .i64 k ∧ s = .int .i64 (maxTo zs k)) (fun _ i => n - (intOf i).toNat)
  case atStart => exact ⟨1, Nat.le_refl _, h0, rfl, by rw [maxTo_one zs (by have := hl.out; omega)]; rfl⟩
  case round =>
    obtain ⟨k, hk1, hk, rfl, rfl⟩ := hrel
    by_cases hlt : k < n
    · have hck := HC.out k hlt
      have hs := hide (maxTo_succ zs k (by have := hl.out; omega))
      generalize zs.getD k 0 = x at *
      go_wp2
      go_round
      case rel => exact ⟨k + 1, by omega, by omega, by go_num, by rw [hs.out]; exact congrArg (Value.int .i64) (by split <;> omega)⟩
      case measure => simp [intOf]; omega
    · go_wp2
      go_ret
      exact ⟨ret_int (maxTo_all zs k (by have := hl.out; omega)), rfl⟩

end Go.Proofs.Ytmckompikbechaa
