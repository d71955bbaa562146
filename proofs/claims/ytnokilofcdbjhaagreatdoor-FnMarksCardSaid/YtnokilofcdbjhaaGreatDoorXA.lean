/- The text of marks, in plain lists of bytes. -/
import Derived.Test.YtnokilofcdbjhaaGreatDoorGM
import Derived.Lib.ItoaNum
namespace Go.Proofs.YtnokilofcdbjhaaGreatDoor
open Go.RowKit Go.Sort
set_option linter.unusedVariables false

/-- One line: a letter, then a blank and a number for each mark, then the end of the line. -/
def rowT (h : UInt8) (l : List Int) : List UInt8 := h :: (l.flatMap (fun n => 32 :: Lib.itoa n) ++ [10])
def wordsX (l : List Int) : List UInt8 := l.flatMap (fun n => 32 :: Lib.itoa n)
def marksT (d : MD) : List UInt8 := d.1.flatMap (rowT 103) ++ d.2.flatMap (rowT 99)
def marksTextF (d : MD) : List UInt8 × Bool := if marksB d then (marksT d, true) else ([], false)
theorem decDigits_len (k : Nat) : (Lib.decDigits k).length ≤ k + 1 := by
  induction k using Nat.strongRecOn with
  | _ k ih =>
    rw [Lib.decDigits]
    split
    · simp
    · have := ih (k / 10) (by omega)
      simp only [List.length_append, List.length_cons, List.length_nil]
      omega
theorem itoa_len {n : Int} {k : Nat} (h : n.natAbs ≤ k) : (Lib.itoa n).length ≤ k + 2 := by
  unfold Lib.itoa
  split
  · have := decDigits_len n.natAbs
    simp only [List.length_cons]; omega
  · have := decDigits_len n.toNat
    omega
theorem bsz (x : List UInt8) : (bs x).size = x.length := by simp [bs, ByteArray.size]
theorem bs_add {P : Program} (w : World) (x y : List UInt8) (h : x.length + y.length ≤ 9223372036854775807) : (Op.stringOp .add (bs x) (bs y)).run P w = .ok (.string (bs (x ++ y))) w := by
  rw [run_string_add_sum w _ _ (by rw [bsz, bsz]; exact h)]
  unfold bs
  rw [ByteArray.mk_append_mk]
end Go.Proofs.YtnokilofcdbjhaaGreatDoor
