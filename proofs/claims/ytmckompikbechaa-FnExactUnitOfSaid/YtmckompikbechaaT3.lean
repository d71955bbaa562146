import Derived.Test.YtmckompikbechaaT2
import Derived.OwnWalk
namespace Go.Proofs.Ytmckompikbechaa
open Go.RowKit

/-- n numbers from k on. -/
def upFrom (k : Int) (n : Nat) : List Int := (List.range n).map fun i : Nat => k + (i : Int)
theorem upFrom_len (k : Int) (n : Nat) : (upFrom k n).length = n := by simp [upFrom]
theorem upFrom_at (k : Int) (n j : Nat) (h : j < n) : (upFrom k n).getD j 0 = k + j := by simp [upFrom, h]
/-- The row in which the first j numbers have been marked. -/
def marked (k : Int) (zs : List Int) (j : Nat) : List Int := upFrom k j ++ zs.drop j
theorem marked_zero (k : Int) (zs : List Int) : marked k zs 0 = zs := by simp [marked, upFrom]
theorem marked_all (k : Int) (zs : List Int) (j n : Nat) (h : zs.length = n) (hj : ¬ j < n) (hj' : j ≤ n) : marked k zs j = upFrom k n := by
  have : j = n := by omega
  subst this
  simp [marked, ← h]
theorem marked_set (k : Int) (zs : List Int) (j : Nat) (h : j < zs.length) : (marked k zs j).set j (k + j) = marked k zs (j + 1) := by
  unfold marked
  rw [List.set_append_right _ _ (by simp [upFrom_len])]
  rw [upFrom_len, Nat.sub_self, List.drop_eq_getElem_cons h, List.set_cons_zero]
  simp [upFrom, List.range_succ]

set_option maxHeartbeats 400000 in
theorem l.markIntS_any (A : Option Addr) (n c lo : Nat) (zs : List Int) (k : Int) (w : World) (h : OwnI 3 w lo A n c zs) (hn : n ≤ 1048576) (hk0 : 0 ≤ k) (hk1 : k ≤ 17179869184) :
    Calls Try.prog 47 #[.slice A n c, .int .i64 k] w fun e w' => e = .returned (.int .i64 (k + n)) ∧ OwnI 3 w' lo A n c (upFrom k n) ∧ w.grownBy w' (A.map (·.block)) := by
  have HL := hide h.len
  have HW := hide h
  clear h
  go_enter Try.func47, Try.ntmps47
  go_wp2
  go_loopw [1, 5] (fun q i wr => ∃ j : Nat, j ≤ n ∧ i = .int .i64 j ∧ q = .int .i64 (k + j) ∧ OwnI 3 wr lo A n c (marked k zs j) ∧ w.grownBy wr (A.map (·.block))) (fun _ i _ => n - (intOf i).toNat)
  case atStart => exact ⟨0, Nat.zero_le _, rfl, by simp, by rw [marked_zero]; exact HW.out, World.grownBy.refl _ _⟩
  case round =>
    obtain ⟨j, hj, rfl, rfl, hown, hgr⟩ := hrel
    have H := hide hown
    have HG := hide hgr
    clear hgr
    by_cases hlt : j < n
    · obtain ⟨g, rfl, hg1, hg2, hg3⟩ := hown.pos (by omega)
      have hcd := hown.cell j hlt
      have hfd := hown.free j
      clear hown
      go_wp2
      go_roundw
      case rel => exact ⟨j + 1, by omega, by go_num, by go_num, by rw [← marked_set k zs j (by have := HL.out; omega)]; exact H.out.set j _, HG.out.step_set (p := ⟨g, j, none⟩) rfl _⟩
      case measure => simp [intOf]; omega
    · clear hown
      go_wp2
      go_ret
      refine ⟨ret_int (by omega), ?_, HG.out⟩
      have := H.out
      rwa [marked_all k zs j n HL.out hlt hj] at this

set_option maxHeartbeats 400000 in
theorem l.heldIntS_same (A : Option Addr) (n c B : Nat) (k : Int) (w : World) (h : SlI w B A n (upFrom k n)) (hn : n ≤ 1048576) (hk0 : 0 ≤ k) (hk1 : k ≤ 17179869184) :
    Calls Try.prog 48 #[.slice A n c, .int .i64 k] w fun e w' => e = .returned (.int .i64 (k + n)) ∧ w = w' := by
  have HW := hide h
  clear h
  go_enter Try.func48, Try.ntmps48
  go_wp2
  go_loop [1, 5] (fun q i => ∃ j : Nat, j ≤ n ∧ i = .int .i64 j ∧ q = .int .i64 (k + j)) (fun _ i => n - (intOf i).toNat)
  case atStart => exact ⟨0, Nat.zero_le _, rfl, by simp⟩
  case round =>
    obtain ⟨j, hj, rfl, rfl⟩ := hrel
    by_cases hlt : j < n
    · obtain ⟨b, off, rfl, hb, hc⟩ := HW.out.cells (by omega)
      have hck := hc j hlt
      rw [upFrom_at k n j hlt] at hck
      clear hc
      have hne : ((k + (j : Int)) != (k + (j : Int))) = false := by simp
      go_wp2
      go_round
      case rel => exact ⟨j + 1, by omega, by go_num, by go_num⟩
      case measure => simp [intOf]; omega
    · go_wp2
      go_ret
      exact ⟨ret_int (by omega), rfl⟩

/-- Valid marks of judges. -/
def goodMarks (zs : List Int) : Bool := inB 1 9 zs.length && zs.all (inB (-1000) 1000)

theorem elem_int : Elem Try.prog 51 3 8 := Elem.mk Try.underlying51 info_int rfl

/-- A copy in new memory, by appending to an empty slice. -/
theorem i.copyInts_any (A : Option Addr) (n c B : Nat) (zs : List Int) (w : World) (h : SlI w B A n zs) (hB : B ≤ w.heap.size) (hn : n ≤ 1048576) :
    Calls Try.prog 158 #[.slice A n c] w fun e w' => ∃ A' c', e = .returned (.slice A' n c') ∧ OwnI 3 w' w.heap.size A' n c' zs ∧ Ext w w' := by
  have H := hide h
  clear h
  go_enter Try.func158, Try.ntmps158
  go_wp2_with (at_builtin; refine wpList_append_sl rfl (.tmp 3) (.tmp 4) rfl elem_int rfl rfl (Own.empty w 3 (Nat.le_refl _)) (H.out.alloc hB _) (oneCell_ints zs) ?c1 ?c2 ?c3 ?_)
  case c1 => omega
  case c2 => omega
  case c3 => simp
  intro A' c' w' hap
  go_wp2
  go_ret
  exact ⟨A', c', rfl, hap.own, hap.below ((Below.refl w.heap.size w).alloc (Nat.le_refl _) _) (by simp) (fun p hp => by cases hp; exact Nat.le_refl _) (Nat.le_refl _)⟩

end Go.Proofs.Ytmckompikbechaa
