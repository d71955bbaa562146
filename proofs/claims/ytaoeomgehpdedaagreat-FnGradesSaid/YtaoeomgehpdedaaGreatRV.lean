/- Clean items: no marks on them. -/
import Derived.Test.YtaoeomgehpdedaaGreatRL
import Derived.Test.YtaoeomgehpdedaaGreatGQ
import Derived.Deep.OwnRows
namespace Go.Proofs.YtaoeomgehpdedaaGreat
open Go.RowKit Go.Sort
set_option linter.unusedVariables false

theorem OwnI.made (w : World) {lo : Nat} (n : Nat) (hn : n ≤ 1048576) (hlo : lo ≤ w.heap.size) : OwnI 3 (w.alloc (.cells (madeCells #[.int .i64 0] n) 3)) lo (some ⟨w.heap.size, 0, none⟩) n n (List.replicate n 0) := by
  have h := World.ownsRow_lit (e := 3) (size := 1) (base := lo) w (madeCells #[.int .i64 0] n) n hlo (by unfold maxLen; omega) (by simp [madeCells])
  rw [made_zeroR] at h
  exact h
theorem item_done {w w4 : World} {d : ItD} {A A' : Option Addr} {c c' : Nat} {f1 f2 : List Nat} {H : Nat} (u0 u1 u2 : Value) (h1 : LO kdS 9 w4 A c d.1 f1) (h2 : LO kdInt 3 w4 A' c' d.2.1 f2) (hd : ∀ i ∈ f1, i ∉ f2) (hf1 : ∀ i ∈ f1, H < i) (hf2 : ∀ i ∈ f2, H < i) (x : Ext w w4) (hH : w.heap.size ≤ H) :
    ∃ f, kdItem.own (((w4.setCell ⟨H, 0, none⟩ u0).setCell ⟨H, 1, none⟩ u1).setCell ⟨H, 2, none⟩ u2) [.slice A d.1.length c, .slice A' d.2.1.length c', .bool d.2.2] d f ∧ (∀ i ∈ f, w.heap.size ≤ i) ∧ Ext w (((w4.setCell ⟨H, 0, none⟩ u0).setCell ⟨H, 1, none⟩ u1).setCell ⟨H, 2, none⟩ u2) := by
  have hk : ∀ i, H < i → (((w4.setCell ⟨H, 0, none⟩ u0).setCell ⟨H, 1, none⟩ u1).setCell ⟨H, 2, none⟩ u2).heap[i]? = w4.heap[i]? := by
    intro i hi
    rw [Below.heap_setCell _ _ _ _ (by simp; omega), Below.heap_setCell _ _ _ _ (by simp; omega), Below.heap_setCell _ _ _ _ (by simp; omega)]
  refine ⟨_, kdItem.mkOwn (h1.keep fun i hi => hk i (hf1 i hi)) (h2.keep fun i hi => hk i (hf2 i hi)) hd, fun i hi => ?_, Below.setCell (Below.setCell (Below.setCell x (by simpa using hH) _) (by simpa using hH) _) (by simpa using hH) _⟩
  rcases List.mem_append.1 hi with h | h
  · have := hf1 i h; omega
  · have := hf2 i h; omega
def cleanD (x : ItD) : ItD := (x.1, List.replicate x.1.length 0, x.2.2)

end Go.Proofs.YtaoeomgehpdedaaGreat
