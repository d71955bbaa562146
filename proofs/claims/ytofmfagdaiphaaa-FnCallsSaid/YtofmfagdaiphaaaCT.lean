/- A whole list appended to an empty literal: nothing that was there turns. -/
import Derived.Test.YtofmfagdaiphaaaCL
namespace Go.Proofs.Ytofmfagdaiphaaa
open Go.RowKit Go.Sort
set_option linter.unusedVariables false

/-- What was there reads as before, as rules of the walk. -/
theorem Ext.bcell {u v : World} (h : Ext u v) : (∀ b o, b < u.heap.size → v.cell? ⟨b, o, none⟩ = u.cell? ⟨b, o, none⟩) ∧ (∀ b o, b < u.heap.size → v.frozen? ⟨b, o, none⟩ = u.frozen? ⟨b, o, none⟩) :=
  ⟨fun b o h1 => Below.cell (p := ⟨b, o, none⟩) h h1, fun b o h1 => Below.frozen (p := ⟨b, o, none⟩) h h1⟩
theorem Ext.setC {u v : World} {p : Addr} (h : Ext u v) (hp : u.heap.size ≤ p.block) (z : Value) : Ext u (v.setCell p z) := Below.setCell h hp z
theorem Ext.bcellD {u v : World} (h : Ext u.drew v) : (∀ b o, b < u.heap.size → v.cell? ⟨b, o, none⟩ = u.cell? ⟨b, o, none⟩) ∧ (∀ b o, b < u.heap.size → v.frozen? ⟨b, o, none⟩ = u.frozen? ⟨b, o, none⟩) := Ext.bcell ((Ext.drew u).trans h)
theorem run_append_some {P : Program} {t ty e : TypeId} {i : TypeInfo} {w : World} {m d : Nat} {a : Addr} {X : Option Addr} (ht : P.underlying t = some (.slice e)) (hi : P.info? e = some i) (hm0 : 0 < m) (hb : m * i.bytes ≤ 140737488355328) (hm : m ≤ 4611686018427387904) :
    (Builtin.append_ #[t, t] ty #[.slice (some a) 0 0, .slice X m d]).run P w = (Builtin.append_ #[t, t] ty #[.slice none 0 0, .slice X m d]).run P w := by
  have h1 : ¬ m ≤ 0 := by omega
  have h2 : Builtin.nextslicecap m 0 = m := by unfold Builtin.nextslicecap; rw [if_pos (by omega)]
  have h3 : ¬ (281474976710656 < m * i.bytes) := by omega
  have h4 : ¬ (m = 0) := by omega
  simp [Builtin.append_, run_underlying ht, sizeOf, typeInfo, hi, Builtin.lenOf, Builtin.firstCells, h2, h3, h4, loadCells, loadCellsFrom]
theorem run_append_fresh {P : Program} {t ty e : TypeId} {size bytes : Nat} {z : Value} {w : World} {m d g : Nat} {X : Option Addr} {news : List Value} (E : ElemN P t e size bytes z) (hs0 : 0 < size) (hl : news.length = m * size) (hX : m = 0 ∨ ∃ b off, X = some ⟨b, off, none⟩ ∧ ∀ j u, news[j]? = some u → w.cell? ⟨b, off + j, none⟩ = some u) (h1 : ∀ u ∈ news, u.oneCell' = true) (hb : m * bytes ≤ 140737488355328) (hm : m ≤ 4611686018427387904) :
    ∃ A' c' w', (Builtin.append_ #[t, t] ty #[.slice (some ⟨g, 0, none⟩) 0 0, .slice X m d]).run P w = .ok (.slice A' m c') w' ∧ Ext w w' ∧ ((m = 0 ∧ A' = some ⟨g, 0, none⟩ ∧ c' = 0) ∨ w'.ownsRow w.heap.size e size (.slice A' m c') m news) := by
  rcases Nat.eq_zero_or_pos m with h0 | h0
  · subst h0
    obtain ⟨ht, i, hi, hz, hz1, hz2, hz3⟩ := E
    refine ⟨some ⟨g, 0, none⟩, 0, w, ?_, Ext.refl w, .inl ⟨rfl, rfl, rfl⟩⟩
    cases X <;> simp [Builtin.append_, run_underlying ht, sizeOf, typeInfo, hi, Builtin.lenOf, Builtin.firstCells, storeCells, loadCells, loadCellsFrom]
  · have hE := E
    obtain ⟨ht, i, hi, hz, hz1, hz2, hz3⟩ := hE
    have hn : w.ownsRow w.heap.size e size (.slice none 0 0) 0 [] := ⟨by simp, .inl ⟨rfl, rfl⟩⟩
    obtain ⟨A', c', w', hrun, h2, h3, _⟩ := run_append_flat (ty := ty) (d := d) (n := 0) (c := 0) (A := none) E hs0 hn hl hX h1 (by rw [Nat.zero_add]; exact hb) (by rw [Nat.zero_add]; exact hm) (Nat.le_refl _)
    rw [Nat.zero_add] at hrun h2
    rw [List.nil_append] at h2
    exact ⟨A', c', w', by rw [run_append_some ht hi h0 (by rw [hz2]; exact hb) hm]; exact hrun, (Ext.refl w).grown h3 (Nat.le_refl _) (by simp), .inr h2⟩
theorem step_append_fresh {P : Program} {t e : TypeId} {size bytes : Nat} {z : Value} {w : World} {m d g : Nat} {X : Option Addr} {news : List Value} {ops : Array Oper} {o : Oper} {a : Act} {KK : Act → World → Prop} {Q : Exit → Act → World → Prop} {G : Prop} (hgd : o.guard = none) (s x : Operand)
    (ho : o.op = .call { callee := .builtin .append, args := #[s, x], argTypes := #[t, t] }) (E : ElemN P t e size bytes z) (hs0 : 0 < size)
    (hs' : a.eval s = .slice (some ⟨g, 0, none⟩) 0 0) (hx' : a.eval x = .slice X m d) (hl : news.length = m * size) (hX : m = 0 ∨ ∃ b off, X = some ⟨b, off, none⟩ ∧ ∀ j u, news[j]? = some u → w.cell? ⟨b, off + j, none⟩ = some u) (h1 : ∀ u ∈ news, u.oneCell' = true) (hb : m * bytes ≤ 140737488355328) (hm : m ≤ 4611686018427387904)
    (hK : ∀ A' c' w', Ext w w' → ((m = 0 ∧ A' = some ⟨g, 0, none⟩ ∧ c' = 0) ∨ w'.ownsRow w.heap.size e size (.slice A' m c') m news) → KK (a.put o.dst (.slice A' m c')) w') :
    if Region.wanted o (yielded ops a.tmps) = true then Oper.wp P o a w KK Q else G := by
  have hw : Region.wanted o (yielded ops a.tmps) = true := by simp [Region.wanted, hgd]
  rw [if_pos hw]
  obtain ⟨A', c', w', hrun, h2, h3⟩ := run_append_fresh (ty := o.type) (d := d) (g := g) E hs0 hl hX h1 hb hm
  unfold Oper.wp execOp
  simp only [ho, resolve, invoke, builtin, Sem.run_bind, Sem.run_pure, Result.andThen_ok, List.map_toArray, List.map_cons, List.map_nil, hs', hx', hrun]
  exact hK A' c' w' h2 h3
end Go.Proofs.Ytofmfagdaiphaaa
