/- The laws' comparisons of numbers, texts and items that are the same. -/
import Derived.Test.YtnokilofcdbjhaaGreatDoorGN
import Derived.Deep.Quiet
import Derived.Lib.QuietBelow
namespace Go.Proofs.YtnokilofcdbjhaaGreatDoor
open Go.RowKit Go.Sort
set_option linter.unusedVariables false

set_option maxHeartbeats 1000000 in
theorem l.qInts_same (A A' : Option Addr) (n c c' B B' : Nat) (zs : List Int) (w : World) (h : SlI w B A n zs) (h' : SlI w B' A' n zs) (hn : n ≤ 1048576) :
    Calls Tryz.prog 18 #[.slice A n c, .slice A' n c'] w fun e w' => e = .returned (.bool true) ∧ Ext w w' := by
  have HL := hide h.len
  have HW := hide h
  have HW' := hide h'
  clear h h'
  have hne : ((n : Int) != (n : Int)) = false := by simp
  go_enter Tryz.func18, Tryz.ntmps18
  go_wp2
  go_loopw [13] (fun i wr => ∃ k m : Nat, k ≤ n ∧ i = .int .i64 k ∧ wr = w.drewN m) (fun i _ => n - (intOf i).toNat)
  case atStart => exact ⟨0, 0, Nat.zero_le _, rfl, rfl⟩
  case round =>
    obtain ⟨k, m, hk, rfl, rfl⟩ := hrel
    by_cases hlt : k < n
    · obtain ⟨b, off, rfl, hb, hc⟩ := HW.out.cells (by omega)
      obtain ⟨b', off', rfl, hb', hc'⟩ := HW'.out.cells (by omega)
      have hck := hc k hlt
      have hck' := hc' k hlt
      clear hc hc'
      have i1 : (k : Int) < n := by omega
      go_wp2
      go_quiet (fail)
      go_wp2
      go_roundw
      case rel => exact ⟨k + 1, m + nq, by omega, by go_num, rfl⟩
      case measure => simp [intOf]; omega
    · go_wp2
      go_ret
      exact ⟨rfl, Ext.drewN w m⟩

theorem kdL.q (w : World) (A A' : Option Addr) (c c' : Nat) (x : List Int) (h : LR kdInt w w.heap.size A c x) (h' : LR kdInt w w.heap.size A' c' x) (hn : x.length ≤ 1048576) :
    Calls Tryz.prog 18 #[.slice A x.length c, .slice A' x.length c'] w fun e w' => e = .returned (.bool true) ∧ Ext w w' :=
  l.qInts_same _ _ _ _ _ _ _ x _ h.sl h'.sl hn

end Go.Proofs.YtnokilofcdbjhaaGreatDoor
