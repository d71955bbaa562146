/- The best elements, greedily, by the program. -/
import Derived.Test.YtcnpbaldnhfebaaBA
import Derived.Test.YtcnpbaldnhfebaaGP
namespace Go.Proofs.Ytcnpbaldnhfebaa
open Go.RowKit Go.Sort
set_option linter.unusedVariables false

theorem closTrue (w : World) (i : Int) : Calls Try.prog 53 #[.int .i64 i] w fun e w' => e = .returned (.bool true) ∧ w = w' := by
  go_enter Try.func53, Try.ntmps53
  go_wp2
  go_ret
  exact ⟨rfl, rfl⟩
theorem intL_snoc (l : List Nat) (k : Nat) : (intL l).map (Value.int .i64) ++ [Value.int .i64 (k : Int)] = (intL (l ++ [k])).map (Value.int .i64) := by simp [intL]

set_option maxRecDepth 100000 in
set_option maxHeartbeats 2000000 in
theorem indices_m (n : Nat) (w : World) (hn : n ≤ 1048576) :
    Calls Try.prog 52 #[.int .i64 n, .func (.func 53) #[] #[]] w fun e w' => ∃ A' c', e = .returned (.slice A' n c') ∧ OwnI 3 w' w.heap.size A' n c' (intL (List.range n)) ∧ Ext w w' := by
  go_enter Try.func52, Try.ntmps52
  go_wp2
  have O0 : Hid (OwnI 3 (w.alloc (.cells #[] 3)) w.heap.size (some ⟨w.heap.size, 0, none⟩) 0 0 (intL (List.range 0))) := Own.empty w 3 (Nat.le_refl _)
  have X0 : Hid (Ext w (w.alloc (.cells #[] 3))) := Ext.alloc w _
  go_loopw [5, 9] (fun s5 s9 wr => ∃ (k : Nat) (A : Option Addr) (c : Nat), k ≤ n ∧ s9 = .int .i64 k ∧ s5 = .slice A k c ∧ OwnI 3 wr w.heap.size A k c (intL (List.range k)) ∧ Ext w wr) (fun _ s9 _ => n - (intOf s9).toNat)
  case atStart => exact ⟨0, _, _, Nat.zero_le _, rfl, rfl, O0.out, X0.out⟩
  case round =>
    obtain ⟨k, A, c, hk, rfl, rfl, ho, hx⟩ := hrel
    have O5 := hide ho
    have HX := hide hx
    clear ho hx O0 X0
    by_cases hlt : k < n
    · have hltz : (k : Int) < (n : Int) := by omega
      have EQ := hide (intL_snoc (List.range k) k)
      rw [← List.range_succ] at EQ
      have cap := O5.out.capn
      generalize intL (List.range k) = L at *
      go_wp2_with (first | (go_at_call 53; refine (closTrue _ _).mono ?_; rintro e w' ⟨rfl, rfl⟩) | (at_builtin; refine wpList_append_sl rfl (.tmp 15) (.tmp 17) rfl elem_int rfl rfl (lo := w.heap.size) (Own.alloc O5.out (.cells #[.int .i64 k] 3)) (Sl.one wr (.int .i64 k) 3) (one_int _) ?c1 ?c2 ?c3 ?_))
      case c1 => omega
      case c2 => omega
      case c3 => have := HX.out.size; simp; omega
      intro A9 c9 w9 hap
      have XE := hide (hap.ext (HX.out.trans (Ext.alloc wr _)) (Own.fromLo O5.out))
      have O9 : Hid (OwnI 3 w9 w.heap.size A9 (k + 1) c9 (intL (List.range (k + 1)))) := own_conv hap.own (Nat.le_refl _) rfl EQ.out
      clear hap
      go_wp2
      go_roundw
      case rel => exact ⟨k + 1, A9, c9, by omega, by go_num, rfl, O9.out, XE.out⟩
      case measure => simp [intOf]; omega
    · have e : k = n := by omega
      subst e
      go_wp2
      go_ret
      exact ⟨_, _, rfl, O5.out, HX.out⟩
end Go.Proofs.Ytcnpbaldnhfebaa
