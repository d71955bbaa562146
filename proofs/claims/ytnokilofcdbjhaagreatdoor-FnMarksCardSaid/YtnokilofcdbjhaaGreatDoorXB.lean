/- A number's text: the reference's. -/
import Derived.Test.YtnokilofcdbjhaaGreatDoorXA
import Derived.Laws.BytesString
import Derived.Laws.Cells
import Derived.Deep.RegionLaw
import Derived.IntWalk
namespace Go.Proofs.YtnokilofcdbjhaaGreatDoor
open Go.RowKit Go.Sort
set_option linter.unusedVariables false

theorem run_byte1 (w : World) (b : Nat) (n : Int) (h : w.cell? ⟨b, 0, none⟩ = some (.int .u8 n)) :
    (convert 22 9 (.slice (some ⟨b, 0, none⟩) 1 1)).run Tryz.prog w = .ok (.string (bs [UInt8.ofNat n.toNat])) w := by
  rw [run_convert_bytes_string w _ _ _ _ _ _ Tryz.underlying22 Tryz.underlying5 Tryz.underlying9]
  have hl : (loadCells ⟨b, 0, none⟩ 1).run Tryz.prog w = .ok (([n] : List Int).map (Value.int .u8)).toArray w := by
    have := run_loadCells_list (P := Tryz.prog) w ⟨b, 0, none⟩ [.int .u8 n] (fun j v hj => by
      match j with
      | 0 => simp at hj; subst hj; exact h
      | j + 1 => simp at hj)
    exact this
  rw [run_bytesToString w _ 1 1 [n] hl]
  rfl

set_option maxRecDepth 100000 in
set_option maxHeartbeats 2000000 in
theorem s.l1Num_m (k : Nat) : ∀ (w : World), k ≤ 1000000 → Calls Tryz.prog 79 #[.int .i64 k] w fun e w' => e = .returned (.string (bs (Lib.decDigits k))) ∧ Ext w w' := by
  induction k using Nat.strongRecOn with
  | _ k ih =>
    intro w hk
    by_cases hlt : k < 10
    · have e0 : Lib.decDigits k = [UInt8.ofNat (48 + k)] := by rw [Lib.decDigits, dif_pos hlt]
      obtain ⟨u, hu⟩ : ∃ u, Hid (UInt8.ofNat (48 + k) = u) := ⟨_, rfl⟩
      rw [e0, hu.out]
      clear e0 ih
      have hlt' : (k : Int) < 10 := by omega
      have hc := run_byte1 (w.alloc (.cells #[.int .u8 (48 + (k : Int))] 5)) w.heap.size (48 + (k : Int)) (by simp)
      rw [show (48 + (k : Int)).toNat = 48 + k by omega, hu.out] at hc
      go_enter Tryz.func79, Tryz.ntmps79
      go_wp2
      go_ret
      exact ⟨rfl, Ext.alloc _ _⟩
    · have e0 : Lib.decDigits k = Lib.decDigits (k / 10) ++ [UInt8.ofNat (48 + k % 10)] := by rw [Lib.decDigits, dif_neg hlt]
      obtain ⟨u, hu⟩ : ∃ u, Hid (UInt8.ofNat (48 + k % 10) = u) := ⟨_, rfl⟩
      rw [e0, hu.out]
      clear e0
      obtain ⟨D, hD⟩ : ∃ D, Hid (Lib.decDigits (k / 10) = D) := ⟨_, rfl⟩
      have IH : Hid (∀ w, Calls Tryz.prog 79 #[.int .i64 ((k : Int) / 10)] w fun e w' => e = .returned (.string (bs D)) ∧ Ext w w') := fun w => by
        have := ih (k / 10) (by omega) w (by omega)
        rw [hD.out] at this
        simpa using this
      have hDl : D.length ≤ k + 1 := by have := decDigits_len (k / 10); rw [hD.out] at this; omega
      have hadd : ∀ w : World, (Op.stringOp .add (bs D) (bs [u])).run Tryz.prog w = .ok (.string (bs (D ++ [u]))) w := fun w => bs_add w _ _ (by simp; omega)
      rw [hD.out]
      have hconv : ∀ (b : Nat) (w1 : World), w1.cell? ⟨b, 0, none⟩ = some (.int .u8 (48 + (k : Int) % 10)) → (convert 22 9 (.slice (some ⟨b, 0, none⟩) 1 1)).run Tryz.prog w1 = .ok (.string (bs [u])) w1 := fun b w1 h => by
        have := run_byte1 w1 _ _ h
        rwa [show (48 + (k : Int) % 10).toNat = 48 + k % 10 by omega, hu.out] at this
      clear ih hD hu
      have hge' : ¬ (k : Int) < 10 := by omega
      have hw1 : IntKind.i64.wrap ((k : Int) / 10) = (k : Int) / 10 := IntWalk.i64_in _ (by omega)
      have hw2 : (k : Int).tmod 10 = (k : Int) % 10 := Int.tmod_eq_emod_of_nonneg (by omega)
      have hw3 : IntKind.i64.wrap (48 + (k : Int) % 10) = 48 + (k : Int) % 10 := IntWalk.i64_in _ (by omega)
      have hw4 : IntKind.u8.wrap (48 + (k : Int) % 10) = 48 + (k : Int) % 10 := by unfold IntKind.wrap; simp [IntKind.bits, IntKind.signed]; omega
      clear hlt hk
      go_enter Tryz.func79, Tryz.ntmps79
      go_wp2_with fail
      go_region_law (go_simp; go_at_call 79; (first
        | (refine (IH.out _).mono ?_; rintro e w1 ⟨rfl, x1⟩; have q1 := ((Blk.new (w := w) rfl #[.int .u8 (48 + (k : Int) % 10)] 5).ext (Ext.drew _)).ext x1; have q2 := q1.cell; have X := hide (((Ext.alloc w (.cells #[.int .u8 (48 + (k : Int) % 10)] 5)).trans (Ext.drew _)).trans x1); clear x1 q1)
        | (refine (IH.out _).mono ?_; rintro e w1 ⟨rfl, x1⟩; have X := hide ((Ext.drew w).trans x1); clear x1)))
      all_goals
        go_wp2
        go_ret
        first
          | exact ⟨rfl, X.out⟩
          | exact ⟨rfl, X.out.trans (Ext.alloc _ _)⟩

set_option maxRecDepth 100000 in
set_option maxHeartbeats 2000000 in
theorem s.l1Int_m (n : Int) (w : World) (h0 : -1000000 ≤ n) (h1 : n ≤ 1000000) : Calls Tryz.prog 64 #[.int .i64 n] w fun e w' => e = .returned (.string (bs (Lib.itoa n))) ∧ Ext w w' := by
  obtain ⟨D, hD⟩ : ∃ D, Hid (Lib.itoa n = D) := ⟨_, rfl⟩
  rw [hD.out]
  by_cases hn : n < 0
  · have e0 : 45 :: Lib.decDigits n.natAbs = D := by rw [← hD.out, Lib.itoa, if_pos hn]
    obtain ⟨E, hE⟩ : ∃ E, Hid (Lib.decDigits n.natAbs = E) := ⟨_, rfl⟩
    rw [hE.out] at e0
    have IH : Hid (∀ w, Calls Tryz.prog 79 #[.int .i64 (-n)] w fun e w' => e = .returned (.string (bs E)) ∧ Ext w w') := fun w => by
      have := s.l1Num_m n.natAbs w (by omega)
      rw [hE.out, show ((n.natAbs : Nat) : Int) = -n by omega] at this
      exact this
    have hEl : E.length ≤ n.natAbs + 1 := by have := decDigits_len n.natAbs; rw [hE.out] at this; omega
    have hadd : ∀ w : World, (Op.stringOp .add ⟨#[45]⟩ (bs E)).run Tryz.prog w = .ok (.string (bs D)) w := fun w => by
      have := bs_add (P := Tryz.prog) w [45] E (by simp; omega)
      rwa [show ([45] ++ E : List UInt8) = D from e0] at this
    have hw1 : IntKind.i64.wrap (-n) = -n := IntWalk.i64_in _ (by omega)
    clear e0 hE hD hEl
    go_enter Tryz.func64, Tryz.ntmps64
    go_wp2_with fail
    refine (IH.out _).mono ?_
    rintro e w1 ⟨rfl, x1⟩
    have X := hide x1
    clear x1
    go_wp2
    go_ret
    exact ⟨rfl, X.out⟩
  · have e0 : Lib.decDigits n.toNat = D := by rw [← hD.out, Lib.itoa, if_neg hn]
    have IH : Hid (∀ w, Calls Tryz.prog 79 #[.int .i64 n] w fun e w' => e = .returned (.string (bs D)) ∧ Ext w w') := fun w => by
      have := s.l1Num_m n.toNat w (by omega)
      rw [e0, show ((n.toNat : Nat) : Int) = n by omega] at this
      exact this
    have hn' : 0 ≤ n := by omega
    clear e0 hD hn
    go_enter Tryz.func64, Tryz.ntmps64
    go_wp2_with fail
    refine (IH.out _).mono ?_
    rintro e w1 ⟨rfl, x1⟩
    have X := hide x1
    clear x1
    go_wp2
    go_ret
    exact ⟨rfl, X.out⟩
end Go.Proofs.YtnokilofcdbjhaaGreatDoor
