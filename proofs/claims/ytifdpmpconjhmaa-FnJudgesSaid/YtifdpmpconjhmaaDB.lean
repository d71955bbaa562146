/- Drawn marks: the numbers of judges and items; valid marks. -/
import Derived.Test.YtifdpmpconjhmaaDA
import Derived.Test.YtifdpmpconjhmaaMN
namespace Go.Proofs.Ytifdpmpconjhmaa
open Go.RowKit Go.Sort
set_option linter.unusedVariables false

/-- A step behind a step: what turns is the cursor's or new. -/
theorem TchF.step {g : Nat} {fp : List Nat} {w a b : World} (h : TchF [g] w a) (k : TchF fp a b) (hd : ∀ i ∈ fp, i = g ∨ w.heap.size ≤ i) : TchF [g] w b :=
  ⟨k.os.trans h.os, k.tape.trans h.tape, k.output.trans h.output, Nat.le_trans h.size k.size, fun i hi hm => (k.block i (Nat.lt_of_lt_of_le hi h.size) (fun hh => by
    rcases hd i hh with e | e
    · exact hm (by simp [e])
    · omega)).trans (h.block i hi hm)⟩
theorem TchF.stepX {g : Nat} {w a b : World} (h : TchF [g] w a) (k : Ext a b) : TchF [g] w b := h.step (TchF.of_ext k (fp := [])) (by simp)
def lenV : Value → Nat
  | .slice _ n _ => n
  | _ => 0
def lenAt (w : World) (b o : Nat) : Nat := match w.cell? ⟨b, o, none⟩ with
  | some (.slice _ n _) => n
  | _ => 0
theorem lenAt_of {w : World} {b o n c : Nat} {A : Option Addr} (h : w.cell? ⟨b, o, none⟩ = some (.slice A n c)) : lenAt w b o = n := by unfold lenAt; rw [h]

set_option maxHeartbeats 400000 in
theorem cu.least_m (a b : Int) (w : World) : Calls Try.prog 53 #[.int .i64 a, .int .i64 b] w fun e w' => e = .returned (.int .i64 (if a < b then a else b)) ∧ w' = w := by
  obtain ⟨R, hR⟩ : ∃ R, Hid ((if a < b then a else b) = R) := ⟨_, rfl⟩
  rw [hR.out]
  by_cases h : a < b
  · have e : Hid (R = a) := by show _ = _; rw [← hR.out, if_pos h]
    go_enter Try.func53, Try.ntmps53
    go_wp2
    go_ret
    exact ⟨by rw [e.out]; rfl, rfl⟩
  · have e : Hid (R = b) := by show _ = _; rw [← hR.out, if_neg h]
    go_enter Try.func53, Try.ntmps53
    go_wp2
    go_ret
    exact ⟨by rw [e.out]; rfl, rfl⟩
set_option maxHeartbeats 400000 in
theorem cu.most_m (a b : Int) (w : World) : Calls Try.prog 52 #[.int .i64 a, .int .i64 b] w fun e w' => e = .returned (.int .i64 (if b < a then a else b)) ∧ w' = w := by
  obtain ⟨R, hR⟩ : ∃ R, Hid ((if b < a then a else b) = R) := ⟨_, rfl⟩
  rw [hR.out]
  by_cases h : b < a
  · have e : Hid (R = a) := by show _ = _; rw [← hR.out, if_pos h]
    go_enter Try.func52, Try.ntmps52
    go_wp2
    go_ret
    exact ⟨by rw [e.out]; rfl, rfl⟩
  · have e : Hid (R = b) := by show _ = _; rw [← hR.out, if_neg h]
    go_enter Try.func52, Try.ntmps52
    go_wp2
    go_ret
    exact ⟨by rw [e.out]; rfl, rfl⟩

set_option maxRecDepth 100000 in
set_option maxHeartbeats 1000000 in
theorem cu.judges_m (w : World) (g N : Nat) (h : Cur w g N) (hN : N ≤ 4611686018427000000) :
    Calls Try.prog 51 #[.pointer (some ⟨g, 0, none⟩)] w fun e w' => ∃ n : Nat, e = .returned (.int .i64 n) ∧ 3 ≤ n ∧ n ≤ 9 ∧ Cur w' g (N + 2) ∧ TchF [g] w w' := by
  have hg := h.lt
  have AM := hide (cu.among_m (w.alloc (.cells #[.int .i64 3, .int .i64 3, .int .i64 4, .int .i64 5, .int .i64 5, .int .i64 7, .int .i64 9] 3)) g N w.heap.size 7 [3, 3, 4, 5, 5, 7, 9] (h.ext (Ext.alloc _ _)) hN (Blk.new rfl _ _) (by omega) (by decide) (by decide))
  clear h
  go_enter Try.func51, Try.ntmps51
  go_wp2_with fail
  refine AM.out.mono ?_
  rintro e w1 ⟨r, rfl, hr, c1, k1⟩
  have C1 := hide c1
  have K1 := hide ((TchF.of_ext (Ext.alloc w (.cells #[.int .i64 3, .int .i64 3, .int .i64 4, .int .i64 5, .int .i64 5, .int .i64 7, .int .i64 9] 3)) (fp := [g])).trans k1)
  have hb : 3 ≤ r ∧ r ≤ 9 := by
    simp only [List.mem_cons, List.not_mem_nil, or_false] at hr
    omega
  clear c1 k1 hr
  go_wp2
  go_ret
  exact ⟨r.toNat, by rw [Int.toNat_of_nonneg (by omega)]; rfl, by omega, by omega, C1.out, K1.out⟩
set_option maxRecDepth 100000 in
set_option maxHeartbeats 1000000 in
theorem cu.howMany_m (w : World) (g N : Nat) (h : Cur w g N) (hN : N ≤ 4611686018426000000) :
    Calls Try.prog 23 #[.pointer (some ⟨g, 0, none⟩)] w fun e w' => ∃ n : Nat, e = .returned (.int .i64 n) ∧ n ≤ 15 ∧ Cur w' g (N + 4) ∧ TchF [g] w w' := by
  have ON := hide (cu.one_m w g N 24 h (by omega) (by unfold InR; omega))
  have PK := hide (fun (wq : World) (m : Int) (hq : Cur wq g (N + 2)) (hm : InR m) => cu.pick_m wq g (N + 2) m hq (by omega) hm)
  clear h
  go_enter Try.func23, Try.ntmps23
  go_wp2_with fail
  refine ON.out.mono ?_
  rintro e w1 ⟨r, rfl, c1, k1⟩
  have C1 := hide c1; have K1 := hide k1
  clear c1 k1
  cases r
  · go_wp2_with fail
    refine (PK.out w1 6 C1.out (by unfold InR; omega)).mono ?_
    rintro e w2 ⟨q, rfl, q0, q1, -, c2, k2⟩
    have C2 := hide c2; have K2 := hide (K1.out.trans k2)
    have q2 := q1 (by omega)
    clear c2 k2 q1
    go_wp2
    go_ret
    exact ⟨q.toNat, by rw [Int.toNat_of_nonneg (by omega)]; rfl, by omega, C2.out, K2.out⟩
  · go_wp2_with fail
    refine (PK.out w1 2 C1.out (by unfold InR; omega)).mono ?_
    rintro e w2 ⟨q, rfl, q0, q1, -, c2, k2⟩
    have C2 := hide c2; have K2 := hide (K1.out.trans k2)
    have q2 := q1 (by omega)
    clear c2 k2 q1
    go_wp2
    go_ret
    exact ⟨(14 + q).toNat, by rw [Int.toNat_of_nonneg (by omega)]; rfl, by omega, C2.out, K2.out⟩
end Go.Proofs.Ytifdpmpconjhmaa
