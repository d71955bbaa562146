/- Marks copied; marks that are valid. -/
import Derived.Test.YtijgndfhfggipaaMF
namespace Go.Proofs.Ytijgndfhfggipaa
open Go.RowKit Go.Sort
set_option linter.unusedVariables false

def noMarks : Value := .agg #[.slice none 0 0, .slice none 0 0]

theorem LO.empty_ (w : World) : LO kdL 24 (w.alloc (.cells #[] 24)) (some ⟨w.heap.size, 0, none⟩) 0 [] [w.heap.size] :=
  ⟨[], [], Own.empty w 24 (Nat.zero_le _), rfl, rfl, by simp, rfl, by simp⟩
/-- A row of its own, as an element of a list. -/
theorem own_row {w : World} {lo n c : Nat} {A : Option Addr} {zs : List Int} (h : OwnI 3 w lo A n c zs) : kdL.own w [.slice A n c] zs (A.map (·.block)).toList := by
  have hl := h.len
  subst hl
  exact ⟨A, c, rfl, h.lo_⟩

theorem kM.mk {w : World} {A A' : Option Addr} {c c' lo hi n n' : Nat} {d : MD} {fp fp' : List Nat} (h : LO kdL 24 w A c d.1 fp) (h' : LO kdL 24 w A' c' d.2 fp') (hn : n = d.1.length) (hn' : n' = d.2.length) (hf : ∀ i ∈ fp, lo ≤ i ∧ i < hi) (hf' : ∀ i ∈ fp', lo ≤ i ∧ i < hi) (hd : ∀ i ∈ fp, i ∉ fp') : kM.fr w lo hi (.agg #[.slice A n c, .slice A' n' c']) d := by
  subst hn hn'
  refine ⟨[.slice A d.1.length c, .slice A' d.2.length c'], fp ++ fp', rfl, ⟨[.slice A d.1.length c], [.slice A' d.2.length c'], fp, fp', rfl, ⟨A, c, rfl, h⟩, ⟨A', c', rfl, h'⟩, rfl, ?_⟩, fun i hi => ?_⟩
  · rw [List.nodup_append]
    exact ⟨h.nodup, h'.nodup, fun a ha b hb e => hd a ha (e ▸ hb)⟩
  · rcases List.mem_append.1 hi with h | h
    · exact hf i h
    · exact hf' i h

theorem step_append_LO {P : Program} {t e : TypeId} {bytes : Nat} {z : Value} {α : Type} {K : Kd α} {w : World} {A : Option Addr} {c : Nat} {xs : List α} {fp : List Nat} {ops : Array Oper} {o : Oper} {a : Act} {Q : Exit → Act → World → Prop} {KK : Act → World → Prop} {G : Prop} (hgd : o.guard = none) (s y : Operand)
    (hop : o.op = .call { callee := .builtin .append, args := #[s, y], argTypes := #[t, t] }) (E : ElemN P t e K.size bytes z) (hs0 : 0 < K.size)
    {gl d n : Nat} (hn : n = xs.length) (hs' : a.eval s = .slice A n c) (hx' : a.eval y = .slice (some ⟨gl, 0, none⟩) 1 d) (h : LO K e w A c xs fp) {cs : List Value} {x : α} {f : List Nat} (ho : K.own w cs x f) (hd : ∀ i ∈ f, i ∉ fp)
    (hsrc : ∀ j u, cs[j]? = some u → w.cell? ⟨gl, 0 + j, none⟩ = some u) (hb : (n + 1) * bytes ≤ 140737488355328) (hm : n + 1 ≤ 4611686018427387904)
    (hK : ∀ A' c' w' fp', ApL K e w fp f w' A' c' (xs ++ [x]) fp' → KK (a.put o.dst (.slice A' (n + 1) c')) w') :
    if Region.wanted o (yielded ops a.tmps) = true then Oper.wp P o a w KK Q else G := by
  have hw : Region.wanted o (yielded ops a.tmps) = true := by simp [Region.wanted, hgd]
  rw [if_pos hw]
  exact wp_append_LO s y hop E hs0 hn hs' hx' h ho hd hsrc hb hm hK
end Go.Proofs.Ytijgndfhfggipaa
