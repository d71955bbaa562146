/- Valid marks drawn: both lists of rows. (Printed by db.py.) -/
import Derived.Test.YtijgndfhfggipaaDB
namespace Go.Proofs.Ytijgndfhfggipaa
open Go.RowKit Go.Sort
set_option linter.unusedVariables false

section
variable {w wr w2 : World} {g J : Nat} {Ag : Option Addr} {ng cg : Nat} {xg : List (List Int)} {fg : List Nat} {Ac : Option Addr} {nc cc : Nat} {xc : List (List Int)} {fc : List Nat}
end
theorem own_tch {e : TypeId} {w w' : World} {lo n c : Nat} {A : Option Addr} {zs : List Int} {fp : List Nat} (h : OwnI e w lo A n c zs) (k : TchF fp w w') (hd : ∀ p, A = some p → p.block ∉ fp) : OwnI e w' lo A n c zs := by
  have hf := OwnI.form h
  refine ⟨h.1, ?_⟩
  rcases h.2 with h | ⟨g, cap, cur, h, h1, h2, r⟩
  · exact .inl h
  · refine .inr ⟨g, cap, cur, h, h1, ?_, r⟩
    simp only [Value.slice.injEq] at h
    rcases hf with ⟨hA, _⟩ | ⟨g', hA, _, hlt, _⟩
    · rw [hA] at h; simp at h
    · rw [hA] at h
      have e : g' = g := by simpa using h.1
      subst e
      rw [k.block g' hlt (hd _ hA), h2]
/-- A row of its own behind an append. -/
theorem row_apd {w w3 : World} {lo j c3 : Nat} {A A3 : Option Addr} {zs : List Int} {y : Int} (ha : Apd 3 w lo A w3 A3 (j + 1) c3 (zs.map (Value.int .i64) ++ [.int .i64 y])) : OwnI 3 w3 lo A3 (j + 1) c3 (zs ++ [y]) :=
  own_conv ha.own (Nat.le_refl _) rfl (by simp)

end Go.Proofs.Ytijgndfhfggipaa
