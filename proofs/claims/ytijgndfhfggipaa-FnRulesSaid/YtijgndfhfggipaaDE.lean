/- Marks whose lists share a row, or hold a part of one. -/
import Derived.Test.YtijgndfhfggipaaDD
import Derived.Test.YtijgndfhfggipaaMU
import Derived.Deep.OwnRows
namespace Go.Proofs.Ytijgndfhfggipaa
open Go.RowKit Go.Sort
set_option linter.unusedVariables false

theorem LO.rowAt {w : World} {A : Option Addr} {c : Nat} {xs : List (List Int)} {fp : List Nat} (h : LO kdL 24 w A c xs fp) (k : Nat) (x : List Int) (hx : xs[k]? = some x) :
    ∃ g Ax cx f, A = some ⟨g, 0, none⟩ ∧ g ∈ fp ∧ w.cell? ⟨g, k, none⟩ = some (.slice Ax x.length cx) ∧ w.frozen? ⟨g, k, none⟩ = false ∧ LO kdInt 3 w Ax cx x f ∧ ∀ i ∈ f, i ∈ fp ∧ i ≠ g := by
  obtain ⟨g, cs, f, hat⟩ := h.at_ k x hx
  obtain ⟨Ax, cx, hcs, hlo⟩ := hat.own
  have hcs : cs = [.slice Ax x.length cx] := hcs
  subst hcs
  have hc : w.cell? ⟨g, k, none⟩ = some (.slice Ax x.length cx) := by
    have := hat.cell 0 _ rfl
    simpa [kdL, kdList] using this
  exact ⟨g, Ax, cx, f, hat.addr, hat.mem, hc, hat.free k, hlo, hat.sub⟩
theorem LO.flatOwn {w : World} {A : Option Addr} {c : Nat} {xs : List (List Int)} {fp : List Nat} (h : LO kdL 24 w A c xs fp) : ∃ vs, Own 24 w 0 A xs.length c vs := by
  obtain ⟨css, fps, hr, _⟩ := h
  exact ⟨css.flatten, hr⟩
theorem SlI.drop1 {w : World} {B n : Nat} {g : Nat} {x : List Int} (h : SlI w B (some ⟨g, 0, none⟩) n x) (hn : 0 < n) : SlI w B (some ⟨g, 1, none⟩) (n - 1) (x.drop 1) := by
  have hl := h.len
  obtain ⟨b, off, e, hb, hc⟩ := h.2 hn
  simp only [Option.some.injEq, Addr.mk.injEq, and_true] at e
  obtain ⟨rfl, rfl⟩ := e
  refine ⟨by simp; omega, fun _ => ⟨g, 1, rfl, hb, fun k u hu => ?_⟩⟩
  have := hc (k + 1) u (by rw [← hu]; simp)
  rwa [show 0 + (k + 1) = 1 + k by omega] at this

section
variable {w wr : World} {g g5 : Nat} {A : Option Addr} {c : Nat} {A' : Option Addr} {c' : Nat} {d : MD} {fp fp' : List Nat}
end
theorem made_zeroD (n : Nat) : (madeCells #[Value.int .i64 0] n).toList = (List.replicate n (0 : Int)).map (Value.int .i64) := by
  have h := part_made (List.replicate n 0) n (by simp)
  rw [h]
  congr 1
  simp [part]
theorem OwnI.madeD (w : World) {lo : Nat} (n : Nat) (hn : n ≤ 1048576) (hlo : lo ≤ w.heap.size) : OwnI 3 (w.alloc (.cells (madeCells #[.int .i64 0] n) 3)) lo (some ⟨w.heap.size, 0, none⟩) n n (List.replicate n 0) := by
  have h := World.ownsRow_lit (e := 3) (size := 1) (base := lo) w (madeCells #[.int .i64 0] n) n hlo (by unfold maxLen; omega) (by simp [madeCells])
  rw [made_zeroD] at h
  exact h
section
variable {w wr : World} {g g5 : Nat} {A : Option Addr} {c : Nat} {A' : Option Addr} {c' : Nat} {d : MD} {fp fp' : List Nat}
end
end Go.Proofs.Ytijgndfhfggipaa
