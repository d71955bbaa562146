import Derived.Test.YtigfhllnfgfdoaaT4
import Derived.Test.YtigfhllnfgfdoaaPA
import Derived.Deep.QuietTactic
import Derived.BigQuiet
namespace Go.Proofs.Ytigfhllnfgfdoaa
open Go.RowKit

theorem slicesMax_any (A : Option Addr) (n c B : Nat) (zs : List Int) (w : World) (h : SlI w B A n zs) (hn : n ≤ 1048576) (h0 : 0 < n) :
    Calls Try.prog 144 #[.slice A n c] w fun e w' => e = .returned (.int .i64 (maxL zs)) ∧ w = w' := by
  have hl := hide h.len
  obtain ⟨b, off, rfl, hb, hc⟩ := h.cells h0
  have hc0 : w.cell? ⟨b, off, none⟩ = some (.int .i64 (zs.getD 0 0)) := by simpa using hc 0 h0
  have HC := hide hc
  clear hc h
  go_enter Try.func144, Try.ntmps144
  go_wp2
  go_loop [3, 4] (fun s i => ∃ k : Nat, 1 ≤ k ∧ k ≤ n ∧ i = .int .i64 k ∧ s = .int .i64 (maxTo zs k)) (fun _ i => n - (intOf i).toNat)
  case atStart => exact ⟨1, Nat.le_refl _, h0, rfl, by rw [maxTo_one zs (by have := hl.out; omega)]; rfl⟩
  case round =>
    obtain ⟨k, hk1, hk, rfl, rfl⟩ := hrel
    by_cases hlt : k < n
    · have hck := HC.out k hlt
      have hs := hide (maxTo_succ zs k (by have := hl.out; omega))
      generalize zs.getD k 0 = x at *
      go_wp2
      go_round
      case rel => exact ⟨k + 1, by omega, by omega, by go_num, by rw [hs.out]; exact congrArg (Value.int .i64) (by split <;> omega)⟩
      case measure => simp [intOf]; omega
    · go_wp2
      go_ret
      exact ⟨ret_int (maxTo_all zs k (by have := hl.out; omega)), rfl⟩

end Go.Proofs.Ytigfhllnfgfdoaa
