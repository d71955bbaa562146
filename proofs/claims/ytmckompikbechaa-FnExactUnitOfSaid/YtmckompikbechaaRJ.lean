/- Lists of items, codes: weighed with what is left. -/
import Derived.Test.YtmckompikbechaaRI
import Derived.Test.YtmckompikbechaaOZ
namespace Go.Proofs.Ytmckompikbechaa
open Go.RowKit Go.Sort
set_option linter.unusedVariables false

def kIt.wt (d : List ItD) : Nat := kdItS.wt d
theorem kIt.ok_of {d : List ItD} (h : ¬ 1048576 < kIt.wt d) : kIt.ok d := Nat.le_of_not_lt h
theorem kIt.szL (w : World) (v : Value) (d : List ItD) (l : Nat) (h : kIt.rd w v d) (h0 : 0 ≤ (l : Int)) (h1 : (l : Int) ≤ 1048576) : Calls Try.prog 13 #[v, .int .i64 l] w fun e w' => e = .returned (.int .i64 (if (kIt.wt d : Int) ≤ l then l - kIt.wt d else -1)) ∧ Ext w w' := by
  obtain ⟨vs, rfl, h⟩ := h
  exact kdItS.sz _ _ d _ h h0 h1
theorem kIt.sz (w : World) (v : Value) (d : List ItD) (h : kIt.rd w v d) : Calls Try.prog 13 #[v, .int .i64 1048576] w fun e w' => e = .returned (.int .i64 (if (kIt.wt d : Int) ≤ 1048576 then 1048576 - kIt.wt d else -1)) ∧ Ext w w' := kIt.szL w v d 1048576 h (by decide) (by decide)
theorem kIt.lr {w : World} {v : Value} {d : List ItD} (h : kIt.rd w v d) : ∃ A c, v = .slice A d.length c ∧ LR kdItem w w.heap.size A c d := by
  obtain ⟨vs, rfl, ⟨A, c, rfl, h⟩⟩ := h
  exact ⟨A, c, rfl, h⟩
end Go.Proofs.Ytmckompikbechaa
