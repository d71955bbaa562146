import Derived.Test.YtmckompikbechaaTG
import Derived.Lib.SliceRun
namespace Go.Proofs.Ytmckompikbechaa
open Go.RowKit
set_option linter.unusedVariables false

section
variable {P : Program} {t ty e : TypeId} {bytes : Nat} {w : World} {lo n c B m d g : Nat} {X : Option Addr} {vs news : List Value}
/-- 'append(own, src...)' within the capacity: in place. -/
theorem run_append_in (E : Elem P t e bytes) (h : Own e w lo (some ⟨g, 0, none⟩) n c vs) (hs : Sl w B X m news) (h1 : ∀ u ∈ news, u.oneCell' = true) (hX : ∃ ad, X = some ad) (hroom : n + m ≤ c) :
    ∃ w', (Builtin.append_ #[t, t] ty #[.slice (some ⟨g, 0, none⟩) n c, .slice X m d]).run P w = .ok (.slice (some ⟨g, 0, none⟩) (n + m) c) w' ∧ Own e w' lo (some ⟨g, 0, none⟩) (n + m) c (vs ++ news) ∧ w.grownBy w' (some g) := by
  obtain ⟨ad, rfl⟩ := hX
  obtain ⟨ht, i, z, hi, hz, hz1, hz2, hz3⟩ := E
  refine run_append_fits (P := P) w lo t ty e i 1 ht hi hz1 g n c vs h ad m d news (by rw [hs.1]; omega) ?_ h1 hroom
  intro j u hu
  rcases Nat.eq_zero_or_pos m with h0 | h0
  · have : news = [] := List.eq_nil_of_length_eq_zero (by rw [hs.1, h0])
    subst this
    simp at hu
  · obtain ⟨b, off, h, _, hc⟩ := hs.2 h0
    injection h with h
    subst h
    rw [add_none]
    exact hc j u hu
theorem step_append_in {ops : Array Oper} {o : Oper} {a : Act} {K : Act → World → Prop} {Q : Exit → Act → World → Prop} {G : Prop} (hgd : o.guard = none) (s x : Operand)
    (ho : o.op = .call { callee := .builtin .append, args := #[s, x], argTypes := #[t, t] }) (E : Elem P t e bytes)
    (hs' : a.eval s = .slice (some ⟨g, 0, none⟩) n c) (hx' : a.eval x = .slice X m d) (h : Own e w lo (some ⟨g, 0, none⟩) n c vs) (hs : Sl w B X m news) (h1 : ∀ u ∈ news, u.oneCell' = true) (hX : ∃ ad, X = some ad) (hroom : n + m ≤ c)
    (hK : ∀ w', Own e w' lo (some ⟨g, 0, none⟩) (n + m) c (vs ++ news) → w.grownBy w' (some g) → K (a.put o.dst (.slice (some ⟨g, 0, none⟩) (n + m) c)) w') :
    if Region.wanted o (yielded ops a.tmps) = true then Oper.wp P o a w K Q else G := by
  have hw : Region.wanted o (yielded ops a.tmps) = true := by simp [Region.wanted, hgd]
  rw [if_pos hw]
  obtain ⟨w', hrun, h2, h3⟩ := run_append_in (ty := o.type) (d := d) E h hs h1 hX hroom
  unfold Oper.wp execOp
  simp only [ho, resolve, invoke, builtin, Sem.run_bind, Sem.run_pure, Result.andThen_ok, List.map_toArray, List.map_cons, List.map_nil, hs', hx', hrun]
  exact hK w' h2 h3
/-- A shorter look at the row. -/
theorem Own.cutTo {k : Nat} (h : Own e w lo (some ⟨g, 0, none⟩) n c vs) (hk : k ≤ n) : Own e w lo (some ⟨g, 0, none⟩) k c (vs.take k) := by
  refine ⟨by simp [h.len]; omega, ?_⟩
  rcases h.2 with ⟨hh, _⟩ | ⟨g', cap, cur, hh, h1, h2, h3, h4, h5, h6⟩
  · simp at hh
  · simp only [Value.slice.injEq, Option.some.injEq, Addr.mk.injEq, and_true, true_and] at hh
    obtain ⟨rfl, rfl⟩ := hh
    refine .inr ⟨g, c, cur, rfl, h1, h2, by omega, h4, h5, ?_⟩
    rw [← h6, List.take_take]
    congr 1
    omega
/-- The row has cells up to its capacity. -/
theorem Own.spare (h : Own e w lo (some ⟨g, 0, none⟩) n c vs) (j : Nat) (hj : j < c) : (w.cell? ⟨g, j, none⟩).isSome = true := by
  rcases h.2 with ⟨hh, _⟩ | ⟨g', cap, cur, hh, h1, h2, h3, h4, h5, h6⟩
  · simp at hh
  · simp only [Value.slice.injEq, Option.some.injEq, Addr.mk.injEq, and_true, true_and] at hh
    obtain ⟨rfl, rfl⟩ := hh
    rw [cell_of_row w g j cur e (0, 0) h2]
    simp
    omega
theorem Own.setOut (h : Own e w lo (some ⟨g, 0, none⟩) n c vs) (j : Nat) (hj : n ≤ j) (u : Value) : Own e (w.setCell ⟨g, j, none⟩ u) lo (some ⟨g, 0, none⟩) n c vs := by
  have := h.set j u
  rwa [List.set_eq_of_length_le (by rw [h.len]; exact hj)] at this
end

theorem zero_int (w : World) : (zeroValue 3).run Try.prog w = .ok (.int .i64 0) w := by kernel_rfl

/-- The result of WithoutMark. -/
def withoutMarkF (zs : List Int) (k : Int) : List Int × Bool := if hasMark zs k && !(zs.length == 1) then (zs.take k.toNat ++ zs.drop (k.toNat + 1), true) else ([], false)
theorem withoutMarkF_ok (zs : List Int) (k : Int) (h : kI.ok zs) : kI.ok (withoutMarkF zs k).1 := by
  show (withoutMarkF zs k).1.length ≤ 1048576
  have : zs.length ≤ 1048576 := h
  unfold withoutMarkF
  split
  · simp; omega
  · simp

end Go.Proofs.Ytmckompikbechaa
