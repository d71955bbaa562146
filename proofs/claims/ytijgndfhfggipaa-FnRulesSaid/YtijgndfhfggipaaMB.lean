/- Valid marks: the two walks. -/
import Derived.Test.YtijgndfhfggipaaMA
namespace Go.Proofs.Ytijgndfhfggipaa
open Go.RowKit Go.Sort
set_option linter.unusedVariables false

theorem allG_step {α : Type} {f : α → Bool} {xs : List α} {k : Nat} {x : α} (hx : xs[k]? = some x) (h : (xs.take k).all f = true) (h1 : f x = true) : (xs.take (k + 1)).all f = true := by
  obtain ⟨hk, rfl⟩ := List.getElem?_eq_some_iff.1 hx
  rw [List.take_succ_eq_append_getElem hk, List.all_append, h]; simpa using h1
theorem allG_stop {α : Type} {f : α → Bool} {xs : List α} {k : Nat} {x : α} (hx : xs[k]? = some x) (h1 : f x = false) : xs.all f = false := by
  obtain ⟨hk, rfl⟩ := List.getElem?_eq_some_iff.1 hx
  rw [List.all_eq_false]
  exact ⟨_, List.getElem_mem hk, by simp [h1]⟩
theorem allG_end {α : Type} {f : α → Bool} {xs : List α} {k : Nat} (hk : ¬ k < xs.length) (h : (xs.take k).all f = true) : xs.all f = true := by
  rwa [List.take_of_length_le (by omega)] at h
/-- Row k of a list of rows, in a later world. -/
theorem LR.row {w w' : World} {B c k : Nat} {A : Option Addr} {xs : List (List Int)} {x : List Int} (h : LR kdL w B A c xs) (k' : Ext w w') (hB : B ≤ w.heap.size) (hx : xs[k]? = some x) :
    ∃ b off Ak ck, A = some ⟨b, off, none⟩ ∧ b < B ∧ w'.cell? ⟨b, off + k, none⟩ = some (.slice Ak x.length ck) ∧ LR kdInt w' B Ak ck x := by
  obtain ⟨b, off, cs, rfl, hb, ⟨Ak, ck, rfl, hrk⟩, hc⟩ := (h.ext k' hB).2.2 k x hx
  refine ⟨b, off, Ak, ck, rfl, hb, ?_, hrk⟩
  have := hc 0 _ rfl
  rwa [show k * kdL.size + 0 = k from by show k * 1 + 0 = k; omega] at this

theorem LR.mono_len {w : World} {B c : Nat} {A : Option Addr} {zs : List Int} (h : LR kdInt w B A c zs) (hn : zs.length ≤ 1048576) : True := trivial

end Go.Proofs.Ytijgndfhfggipaa
