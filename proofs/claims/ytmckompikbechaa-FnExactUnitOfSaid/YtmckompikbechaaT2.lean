import Derived.Test.YtmckompikbechaaT1
import Derived.Deep.QuietTactic
import Derived.BigQuiet
namespace Go.Proofs.Ytmckompikbechaa
open Go.RowKit

theorem info_int : (Try.prog.info? 3).map (fun i => (i.zero, i.size, i.bytes)) = some (some (.int .i64 0), 1, 8) := by kernel_rfl

/-- What is copied so far: the first k numbers, then zeros. -/
def part (zs : List Int) (k : Nat) : List Int := zs.take k ++ List.replicate (zs.length - k) 0
theorem part_zero (zs : List Int) : part zs 0 = List.replicate zs.length 0 := by simp [part]
theorem part_all (zs : List Int) (k : Nat) (h : ¬ k < zs.length) : part zs k = zs := by
  unfold part
  rw [List.take_of_length_le (by omega), show zs.length - k = 0 by omega]; simp
theorem part_set (zs : List Int) (k : Nat) (h : k < zs.length) : (part zs k).set k (zs.getD k 0) = part zs (k + 1) := by
  unfold part
  rw [take_succ_getD k h, List.set_append_right _ _ (by simp; omega)]
  have e : zs.length - k = (zs.length - (k + 1)) + 1 := by omega
  rw [e, List.replicate_succ]
  simp [Nat.min_eq_left (Nat.le_of_lt h)]
theorem part_made (zs : List Int) (n : Nat) (h : zs.length = n) : (madeCells #[Value.int .i64 0] n).toList = (part zs 0).map (Value.int .i64) := by
  rw [part_zero, h]
  rw [toList_madeCells_one]
  simp

set_option maxHeartbeats 400000 in
theorem l.toIntS_any (A : Option Addr) (n c B : Nat) (zs : List Int) (w : World) (h : SlI w B A n zs) (hB : B ≤ w.heap.size) (hn : n ≤ 1048576) :
    Calls Try.prog 84 #[.slice A n c] w fun e w' => ∃ A' c', e = .returned (.slice A' n c') ∧ OwnI 3 w' w.heap.size A' n c' zs ∧ Ext w w' := by
  obtain ⟨i0, hi, hz0, hz1, hz2⟩ := info_parts info_int
  have HL := hide h.len
  go_enter Try.func84, Try.ntmps84
  go_wp2_with (at_make; refine wpList_make_full _ rfl _ _ _ rfl w.heap.size 3 i0 _ 1 Try.underlying51 hi hz0 hz1 _ _ _ _ n rfl rfl rfl rfl ?c1 ?c2 ?c3 ?_)
  case c1 => rw [hz2]; omega
  case c2 => unfold maxLen; omega
  case c3 => exact Nat.le_refl _
  intro w1 hown hgrow
  rw [part_made zs n HL.out] at hown
  have hb1 : Below w.heap.size w w1 := (Below.refl _ _).grown hgrow (Nat.le_refl _) (by simp)
  have hs1 : w.heap.size < w1.heap.size := by
    rcases Own.form hown with ⟨h, _⟩ | ⟨g, h, _, h2, _⟩
    · simp at h
    · simp at h; omega
  have H1 := hide hown
  have HW := hide h
  clear hown hgrow h
  go_wp2
  go_loopw [4] (fun i wr => ∃ k : Nat, k ≤ n ∧ i = .int .i64 k ∧ OwnI 3 wr w.heap.size (some ⟨w.heap.size, 0, none⟩) n n (part zs k) ∧ Below w.heap.size w wr) (fun i _ => n - (intOf i).toNat)
  case atStart => exact ⟨0, Nat.zero_le _, rfl, H1, hb1⟩
  case round =>
    obtain ⟨k, hk, rfl, hown, hbr⟩ := hrel
    have H := hide hown
    by_cases hlt : k < n
    · obtain ⟨b, off, rfl, hb, hc⟩ := (HW.out.below (hbr.mono hB)).cells (by omega)
      have hck := hc k hlt
      have hcd := hown.cell k hlt
      have hfd := hown.free k
      clear hc hown
      go_wp2
      go_roundw
      case rel => exact ⟨k + 1, by omega, by go_num, by rw [← part_set zs k (by have := HL.out; omega)]; exact H.out.set k _, hbr.setCell (Nat.le_refl _) _⟩
      case measure => simp [intOf]; omega
    · clear hown
      go_wp2
      go_ret
      exact ⟨_, _, rfl, by have := H.out; rwa [part_all zs k (by have := HL.out; omega)] at this, hbr⟩

set_option maxHeartbeats 400000 in
theorem l.eqIntS_same (A A' : Option Addr) (n c c' B B' : Nat) (zs : List Int) (w : World) (h : SlI w B A n zs) (h' : SlI w B' A' n zs) (hn : n ≤ 1048576) :
    Calls Try.prog 45 #[.slice A n c, .slice A' n c'] w fun e w' => e = .returned (.bool true) ∧ ∃ m, w' = w.drewN m := by
  have HL := hide h.len
  have HW := hide h
  have HW' := hide h'
  clear h h'
  have hne : ((n : Int) != (n : Int)) = false := by simp
  go_enter Try.func45, Try.ntmps45
  go_wp2
  go_loopw [5] (fun i wr => ∃ k m : Nat, k ≤ n ∧ i = .int .i64 k ∧ wr = w.drewN m) (fun i _ => n - (intOf i).toNat)
  case atStart => exact ⟨0, 0, Nat.zero_le _, rfl, rfl⟩
  case round =>
    obtain ⟨k, m, hk, rfl, rfl⟩ := hrel
    by_cases hlt : k < n
    · obtain ⟨b, off, rfl, hb, hc⟩ := HW.out.cells (by omega)
      obtain ⟨b', off', rfl, hb', hc'⟩ := HW'.out.cells (by omega)
      have hck := hc k hlt
      have hck' := hc' k hlt
      clear hc hc'
      go_wp2
      go_quiet (fail)
      go_wp2
      go_roundw
      case rel => exact ⟨k + 1, m + nq, by omega, by go_num, rfl⟩
      case measure => simp [intOf]; omega
    · go_wp2
      go_ret
      exact ⟨rfl, m, rfl⟩

end Go.Proofs.Ytmckompikbechaa
