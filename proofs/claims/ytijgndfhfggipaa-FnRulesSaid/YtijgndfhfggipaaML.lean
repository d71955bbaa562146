/- Marks as the laws hand them about. -/
import Derived.Test.YtijgndfhfggipaaGA
import Derived.Test.YtijgndfhfggipaaMC
namespace Go.Proofs.Ytijgndfhfggipaa
open Go.RowKit Go.Sort
set_option linter.unusedVariables false

theorem cntLL_le (xs : List (List Int)) : kdLL.cnt xs ≤ kdLL.wt xs := by
  induction xs with
  | nil => exact Nat.le_refl _
  | cons x t ih =>
    have h1 : kdLL.cnt (x :: t) = cntL kdInt x + kdLL.cnt t := rfl
    have h2 : kdLL.wt (x :: t) = 1 + wtL kdInt x + kdLL.wt t := rfl
    rw [h1, h2, cntL_int, wtL_int]
    omega
theorem marksB_three {d : MD} (h : marksB d = true) : d.2.length = 3 := by
  simp [marksB] at h
  omega
theorem cntM_le (d : MD) : kdM.cnt d ≤ kdM.wt d := by
  have h1 := cntLL_le d.1
  have h2 := cntLL_le d.2
  have : kdM.cnt d = kdLL.cnt d.1 + kdLL.cnt d.2 := rfl
  have : kdM.wt d = kdLL.wt d.1 + kdLL.wt d.2 := rfl
  omega

def kM : Kind MD where
  rd w v d := ∃ vs, v = kdM.val vs ∧ kdM.rd w w.heap.size vs d
  fr w lo hi v d := ∃ vs fp, v = kdM.val vs ∧ kdM.own w vs d fp ∧ (∀ i ∈ fp, lo ≤ i ∧ i < hi)
  ok d := kdM.wt d ≤ 1048576
  mrk := kdM.mrk
  cnt := kdM.cnt
  rd_ext := by
    rintro w w' v d ⟨vs, rfl, h⟩ hx
    exact ⟨vs, rfl, kdM.rd_more (kdM.rd_ext h hx (Nat.le_refl _)) hx.size⟩
  fr_rd := by
    rintro w lo hi v d ⟨vs, fp, rfl, h, _⟩
    exact ⟨vs, rfl, kdM.own_rd h⟩
  fr_tch := by
    rintro w w' lo hi lo' hi' v d ⟨vs, fp, rfl, h, hf⟩ k hd
    refine ⟨vs, fp, rfl, kdM.own_keep h (fun i hi' => k.block i (kdM.own_lt h i hi') ?_), hf⟩
    have := hf i hi'
    omega
  ok_cnt := fun {d} h => Nat.le_trans (Nat.le_trans (cntM_le d) h) (by decide)

def kM.wt (d : MD) : Nat := kdM.wt d
theorem kM.ok_of {d : MD} (h : ¬ 1048576 < kM.wt d) : kM.ok d := Nat.le_of_not_lt h
/-- The shape of a value that reads as marks. -/
theorem kM.shape {w : World} {v : Value} {d : MD} (h : kM.rd w v d) : ∃ A n c A' n' c', v = .agg #[.slice A n c, .slice A' n' c'] := by
  obtain ⟨vs, rfl, h⟩ := h
  obtain ⟨A, c, A', c', rfl, _⟩ := kdM.open_ h
  exact ⟨A, _, c, A', _, c', rfl⟩
theorem kM.lr {w : World} {v : Value} {d : MD} (h : kM.rd w v d) : ∃ A c A' c', v = .agg #[.slice A d.1.length c, .slice A' d.2.length c'] ∧ LR kdL w w.heap.size A c d.1 ∧ LR kdL w w.heap.size A' c' d.2 := by
  obtain ⟨vs, rfl, h⟩ := h
  obtain ⟨A, c, A', c', rfl, h1, h2⟩ := kdM.open_ h
  exact ⟨A, c, A', c', rfl, h1, h2⟩

/-! ### AreMarks -/
def areMarksF (d : MD) (z : Int) : Bool := marksB d && ((d.1.length : Int) == z)

/-! ### JudgesOf -/
def judgesOfF (d : MD) : Int × Bool := if marksB d then ((judges d : Int), true) else (0, false)
end Go.Proofs.Ytijgndfhfggipaa
