/- Drawn marks: the numbers of judges and items; valid marks. -/
import Derived.Test.YtijgndfhfggipaaDA
import Derived.Test.YtijgndfhfggipaaMN
namespace Go.Proofs.Ytijgndfhfggipaa
open Go.RowKit Go.Sort
set_option linter.unusedVariables false

/-- A step behind a step: what turns is the cursor's or new. -/
theorem TchF.step {g : Nat} {fp : List Nat} {w a b : World} (h : TchF [g] w a) (k : TchF fp a b) (hd : ∀ i ∈ fp, i = g ∨ w.heap.size ≤ i) : TchF [g] w b :=
  ⟨k.os.trans h.os, k.tape.trans h.tape, k.output.trans h.output, Nat.le_trans h.size k.size, fun i hi hm => (k.block i (Nat.lt_of_lt_of_le hi h.size) (fun hh => by
    rcases hd i hh with e | e
    · exact hm (by simp [e])
    · omega)).trans (h.block i hi hm)⟩
theorem TchF.stepX {g : Nat} {w a b : World} (h : TchF [g] w a) (k : Ext a b) : TchF [g] w b := h.step (TchF.of_ext k (fp := [])) (by simp)
def lenV : Value → Nat
  | .slice _ n _ => n
  | _ => 0
def lenAt (w : World) (b o : Nat) : Nat := match w.cell? ⟨b, o, none⟩ with
  | some (.slice _ n _) => n
  | _ => 0
theorem lenAt_of {w : World} {b o n c : Nat} {A : Option Addr} (h : w.cell? ⟨b, o, none⟩ = some (.slice A n c)) : lenAt w b o = n := by unfold lenAt; rw [h]

set_option maxHeartbeats 400000 in
theorem cu.least_m (a b : Int) (w : World) : Calls Try.prog 61 #[.int .i64 a, .int .i64 b] w fun e w' => e = .returned (.int .i64 (if a < b then a else b)) ∧ w' = w := by
  obtain ⟨R, hR⟩ : ∃ R, Hid ((if a < b then a else b) = R) := ⟨_, rfl⟩
  rw [hR.out]
  by_cases h : a < b
  · have e : Hid (R = a) := by show _ = _; rw [← hR.out, if_pos h]
    go_enter Try.func61, Try.ntmps61
    go_wp2
    go_ret
    exact ⟨by rw [e.out]; rfl, rfl⟩
  · have e : Hid (R = b) := by show _ = _; rw [← hR.out, if_neg h]
    go_enter Try.func61, Try.ntmps61
    go_wp2
    go_ret
    exact ⟨by rw [e.out]; rfl, rfl⟩
end Go.Proofs.Ytijgndfhfggipaa
