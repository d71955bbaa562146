/- MostSingles by the program. -/
import Derived.Test.YtcnpbaldnhfebaaPH
namespace Go.Proofs.Ytcnpbaldnhfebaa
open Go.RowKit Go.Sort
set_option linter.unusedVariables false

def fitE (d : CoD) (f : Nat) : Nat := min (cntF (famE d) f (List.range d.1.length)) (limE d f)
def singF (d : CoD) : Int × Bool := if codeB d then (((min 14 (totF (fitE d)) : Nat) : Int), true) else (0, false)
def mostS (d : CoD) : Nat → Int
  | 0 => 0
  | f + 1 => mostS d f + min (szA d d.1.length f) (d.2.1.getD f 0)
theorem mostS_succ (d : CoD) (f : Nat) : mostS d (f + 1) = mostS d f + min (szA d d.1.length f) (d.2.1.getD f 0) := rfl
theorem mostS_tot {d : CoD} (hd : CodeOk d) : mostS d 5 = (totF (fitE d) : Nat) := by
  have h0 := (limE_eq hd (show 0 < 5 by decide)).1
  have h1 := (limE_eq hd (show 1 < 5 by decide)).1
  have h2 := (limE_eq hd (show 2 < 5 by decide)).1
  have h3 := (limE_eq hd (show 3 < 5 by decide)).1
  have h4 := (limE_eq hd (show 4 < 5 by decide)).1
  unfold totF fitE
  simp only [mostS, szA]
  omega
theorem mostS_bd {d : CoD} (hd : CodeOk d) (f : Nat) (hf : f ≤ 5) : 0 ≤ mostS d f ∧ mostS d f ≤ 9 * f := by
  induction f with
  | zero => exact ⟨Int.le_refl _, Int.le_refl _⟩
  | succ f ih =>
    have := ih (by omega)
    have h1 := (limE_eq hd (show f < 5 by omega)).2
    have h2 := szA_bd d d.1.length f
    rw [mostS_succ]
    omega

end Go.Proofs.Ytcnpbaldnhfebaa
