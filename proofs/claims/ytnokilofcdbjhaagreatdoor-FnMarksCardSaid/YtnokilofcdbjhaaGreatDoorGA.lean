/- GA: Words, T1, T2, T3, T4, Kinds, T5, PA, TA, TC, TB, TD, TE, TF, TG, TH, TI in one text. -/
import Derived.WalkKit
import Derived.WalkSpells
import Derived.WalkLawsBesides
import Derived.Maps.AppendAt
import Derived.OwnWalk
import Derived.Test.YtnokilofcdbjhaaGreatDoorRows
import Derived.Deep.QuietTactic
import Derived.BigQuiet
import Derived.Deep.RegionLaw
import Derived.IntWalk
import Derived.Lib.SliceRun
/- Words for memory, of no program: a slice value that reads as a list of one-cell elements. -/
namespace Go.Proofs.YtnokilofcdbjhaaGreatDoor
open Go.RowKit

theorem hide {p : Prop} (h : p) : Hid p := h

/-- The slice with address A and length n reads as the cells vs, in a block below B. -/
def Sl (w : World) (B : Nat) (A : Option Addr) (n : Nat) (vs : List Value) : Prop :=
  vs.length = n ∧ (0 < n → ∃ b off, A = some ⟨b, off, none⟩ ∧ b < B ∧ ∀ k u, vs[k]? = some u → w.cell? ⟨b, off + k, none⟩ = some u)

/-- The same for numbers. -/
def SlI (w : World) (B : Nat) (A : Option Addr) (n : Nat) (zs : List Int) : Prop := Sl w B A n (zs.map (Value.int .i64))

theorem add_none (b off k : Nat) : (⟨b, off, none⟩ : Addr).add k = ⟨b, off + k, none⟩ := by
  unfold Addr.add
  split
  · subst_vars; rfl
  · rfl

section
variable {w w' : World} {B B' n : Nat} {A : Option Addr} {vs : List Value} {zs : List Int}

theorem Sl.keep (h : Sl w B A n vs) (hk : ∀ p : Addr, p.block < B → w'.cell? p = w.cell? p) : Sl w' B A n vs :=
  ⟨h.1, fun hn => by
    obtain ⟨b, off, e, hb, hc⟩ := h.2 hn
    exact ⟨b, off, e, hb, fun k u hu => (hk _ hb).trans (hc k u hu)⟩⟩
theorem Sl.more (h : Sl w B A n vs) (hB : B ≤ B') : Sl w B' A n vs :=
  ⟨h.1, fun hn => by
    obtain ⟨b, off, e, hb, hc⟩ := h.2 hn
    exact ⟨b, off, e, by omega, hc⟩⟩
theorem Sl.below (h : Sl w B A n vs) (hb : Below B w w') : Sl w' B A n vs := h.keep fun _ hp => hb.cell hp
theorem Sl.nil : Sl w B A 0 [] := ⟨rfl, fun h => absurd h (by omega)⟩

theorem SlI.len (h : SlI w B A n zs) : zs.length = n := by simpa using h.1
theorem SlI.below (h : SlI w B A n zs) (hb : Below B w w') : SlI w' B A n zs := Sl.below h hb
theorem SlI.more (h : SlI w B A n zs) (hB : B ≤ B') : SlI w B' A n zs := Sl.more h hB
theorem SlI.keep (h : SlI w B A n zs) (hk : ∀ p : Addr, p.block < B → w'.cell? p = w.cell? p) : SlI w' B A n zs := Sl.keep h hk
theorem SlI.cells (h : SlI w B A n zs) (hn : 0 < n) : ∃ b off, A = some ⟨b, off, none⟩ ∧ b < B ∧ ∀ k, k < n → w.cell? ⟨b, off + k, none⟩ = some (.int .i64 (zs.getD k 0)) := by
  obtain ⟨b, off, e, hb, hc⟩ := h.2 hn
  refine ⟨b, off, e, hb, fun k hk => hc k _ ?_⟩
  have hl := h.len
  simp [List.getElem?_eq_getElem (show k < zs.length by omega)]
end

section
variable {zs : List Int}
theorem take_succ_getD (k : Nat) (h : k < zs.length) : zs.take (k + 1) = zs.take k ++ [zs.getD k 0] := by
  rw [List.take_succ_eq_append_getElem h]
  simp [h]
end

/-- The call's own row: the slice value begins at the head of a row of element type e, in a block from lo on, not frozen, and its elements are vs. -/
def Own (e : TypeId) (w : World) (lo : Nat) (A : Option Addr) (n c : Nat) (vs : List Value) : Prop := w.ownsRow lo e 1 (.slice A n c) n vs
def OwnI (e : TypeId) (w : World) (lo : Nat) (A : Option Addr) (n c : Nat) (zs : List Int) : Prop := Own e w lo A n c (zs.map (Value.int .i64))

section
variable {e : TypeId} {w w' : World} {lo lo' n c : Nat} {A : Option Addr} {vs : List Value} {zs : List Int}

theorem Own.len (h : Own e w lo A n c vs) : vs.length = n := by have := h.1; omega
theorem Own.form (h : Own e w lo A n c vs) : (A = none ∧ n = 0 ∧ c = 0) ∨ ∃ g, A = some ⟨g, 0, none⟩ ∧ lo ≤ g ∧ g < w.heap.size ∧ n ≤ c := by
  rcases h.2 with ⟨h, h'⟩ | ⟨g, cap, cur, h, h1, h2, h3, _⟩
  · simp only [Value.slice.injEq] at h
    exact .inl ⟨h.1, h', h.2.2⟩
  · simp only [Value.slice.injEq] at h
    obtain ⟨rfl, _, rfl⟩ := h
    refine .inr ⟨g, rfl, h1, ?_, h3⟩
    rcases Nat.lt_or_ge g w.heap.size with hlt | hge
    · exact hlt
    · rw [Array.getElem?_eq_none hge] at h2; cases h2
theorem Own.pos (h : Own e w lo A n c vs) (hn : 0 < n) : ∃ g, A = some ⟨g, 0, none⟩ ∧ lo ≤ g ∧ g < w.heap.size ∧ n ≤ c := by
  rcases h.form with ⟨_, h, _⟩ | h
  · omega
  · exact h
theorem Own.sl (h : Own e w lo A n c vs) : Sl w w.heap.size A n vs := by
  refine ⟨h.len, fun hn => ?_⟩
  obtain ⟨g, rfl, h1, h2, h3⟩ := h.pos hn
  refine ⟨g, 0, rfl, h2, fun k u hu => ?_⟩
  have := World.ownsRow.cellAt h k (by have := h.len; have := (List.getElem?_eq_some_iff.1 hu).1; omega)
  rw [Nat.zero_add, this, hu]
theorem Own.capn (h : Own e w lo A n c vs) : n ≤ c := by
  rcases h.form with ⟨_, h, _⟩ | ⟨_, _, _, _, h⟩ <;> omega
theorem Own.capm (h : Own e w lo A n c vs) : c ≤ 9223372036854775807 := by
  rcases h.2 with ⟨h, h'⟩ | ⟨g, cap, cur, h, h1, h2, h3, h4, _⟩
  · simp only [Value.slice.injEq] at h
    omega
  · simp only [Value.slice.injEq] at h
    have : cap = c := h.2.2.symm
    unfold maxLen at h4
    omega
theorem Own.lower (h : Own e w lo A n c vs) (hl : lo' ≤ lo) : Own e w lo' A n c vs := by
  refine ⟨h.1, ?_⟩
  rcases h.2 with h | ⟨g, cap, cur, h, h1, r⟩
  · exact .inl h
  · exact .inr ⟨g, cap, cur, h, by omega, r⟩
theorem Own.below {B : Nat} (h : Own e w lo A n c vs) (hb : Below B w w') (hB : w.heap.size ≤ B) : Own e w' lo A n c vs := by
  have hf := h.form
  refine ⟨h.1, ?_⟩
  rcases h.2 with h | ⟨g, cap, cur, h, h1, h2, r⟩
  · exact .inl h
  · refine .inr ⟨g, cap, cur, h, h1, ?_, r⟩
    rw [hb.block g, h2]
    rcases hf with ⟨hA, _⟩ | ⟨g', hA, _, hlt, _⟩
    · subst hA; simp at h
    · simp only [Value.slice.injEq] at h
      rw [hA] at h
      have : g' = g := by simpa using h.1
      omega
/-- A store into the row. -/
theorem Own.set {g : Nat} (h : Own e w lo (some ⟨g, 0, none⟩) n c vs) (j : Nat) (u : Value) :
    Own e (w.setCell ⟨g, j, none⟩ u) lo (some ⟨g, 0, none⟩) n c (vs.set j u) := (World.ownsRow.stored h j u).1
theorem Own.cell {g : Nat} (h : Own e w lo (some ⟨g, 0, none⟩) n c vs) (j : Nat) (hj : j < n) : w.cell? ⟨g, j, none⟩ = vs[j]? := World.ownsRow.cellAt h j (by omega)
theorem Own.free {g : Nat} (h : Own e w lo (some ⟨g, 0, none⟩) n c vs) (j : Nat) : w.frozen? ⟨g, j, none⟩ = false := World.ownsRow.frozenAt h j
/-- A store into a block other than the row's. -/
theorem Own.far {p : Addr} (h : Own e w lo A n c vs) (hp : ∀ a, A = some a → a.block ≠ p.block) (u : Value) : Own e (w.setCell p u) lo A n c vs := by
  refine ⟨h.1, ?_⟩
  rcases h.2 with h | ⟨g, cap, cur, h, h1, h2, r⟩
  · exact .inl h
  · refine .inr ⟨g, cap, cur, h, h1, ?_, r⟩
    simp only [Value.slice.injEq] at h
    rw [Below.heap_setCell _ _ _ _ (hp _ h.1), h2]

theorem OwnI.len (h : OwnI e w lo A n c zs) : zs.length = n := by simpa using Own.len h
theorem OwnI.form (h : OwnI e w lo A n c zs) : (A = none ∧ n = 0 ∧ c = 0) ∨ ∃ g, A = some ⟨g, 0, none⟩ ∧ lo ≤ g ∧ g < w.heap.size ∧ n ≤ c := Own.form h
theorem OwnI.pos (h : OwnI e w lo A n c zs) (hn : 0 < n) : ∃ g, A = some ⟨g, 0, none⟩ ∧ lo ≤ g ∧ g < w.heap.size ∧ n ≤ c := Own.pos h hn
theorem OwnI.sl (h : OwnI e w lo A n c zs) : SlI w w.heap.size A n zs := Own.sl h
theorem OwnI.capn (h : OwnI e w lo A n c zs) : n ≤ c := Own.capn h
theorem OwnI.capm (h : OwnI e w lo A n c zs) : c ≤ 9223372036854775807 := Own.capm h
theorem OwnI.lower (h : OwnI e w lo A n c zs) (hl : lo' ≤ lo) : OwnI e w lo' A n c zs := Own.lower h hl
theorem OwnI.below {B : Nat} (h : OwnI e w lo A n c zs) (hb : Below B w w') (hB : w.heap.size ≤ B) : OwnI e w' lo A n c zs := Own.below h hb hB
theorem OwnI.set {g : Nat} (h : OwnI e w lo (some ⟨g, 0, none⟩) n c zs) (j : Nat) (z : Int) :
    OwnI e (w.setCell ⟨g, j, none⟩ (.int .i64 z)) lo (some ⟨g, 0, none⟩) n c (zs.set j z) := by
  have := Own.set h j (.int .i64 z)
  unfold OwnI
  rw [List.map_set]
  exact this
theorem OwnI.cell {g : Nat} (h : OwnI e w lo (some ⟨g, 0, none⟩) n c zs) (j : Nat) (hj : j < n) : w.cell? ⟨g, j, none⟩ = some (.int .i64 (zs.getD j 0)) := by
  rw [Own.cell h j hj]
  have hl := h.len
  simp [List.getElem?_eq_getElem (show j < zs.length by omega)]
theorem OwnI.free {g : Nat} (h : OwnI e w lo (some ⟨g, 0, none⟩) n c zs) (j : Nat) : w.frozen? ⟨g, j, none⟩ = false := Own.free h j
theorem OwnI.nil : OwnI e w lo none 0 0 [] := ⟨by simp, .inl ⟨rfl, rfl⟩⟩
end


/-- What the tables say of a slice type t with elements of type e, one cell each. -/
def Elem (P : Program) (t e : TypeId) (bytes : Nat) : Prop :=
  P.underlying t = some (.slice e) ∧ ∃ i z, P.info? e = some i ∧ i.zero = some z ∧ i.size = 1 ∧ i.bytes = bytes ∧ z.cells.size = 1

theorem Elem.mk {P : Program} {t e : TypeId} {z : Value} {bytes : Nat} (h : P.underlying t = some (.slice e)) (h' : (P.info? e).map (fun i => (i.zero, i.size, i.bytes)) = some (some z, 1, bytes)) (hz : z.cells.size = 1) : Elem P t e bytes := by
  obtain ⟨i, hi, h0, h1, h2⟩ := info_parts h'
  exact ⟨h, i, z, hi, h0, h1, h2, hz⟩

section
variable {P : Program} {t ty e : TypeId} {bytes : Nat} {w : World} {lo n c B m d : Nat} {A X : Option Addr} {vs news : List Value}

/-- What an append onto the call's own row leaves. -/
structure Apd (e : TypeId) (w : World) (lo : Nat) (A : Option Addr) (w' : World) (A' : Option Addr) (n' c' : Nat) (vs' : List Value) : Prop where
  own : Own e w' lo A' n' c' vs'
  grew : w.grownBy w' (A.map (·.block))
  where_ : A'.map (·.block) = A.map (·.block) ∨ A'.map (·.block) = some w.heap.size

theorem run_append_nothing (E : Elem P t e bytes) (h : Own e w lo A n c vs) : (Builtin.append_ #[t, t] ty #[.slice A n c, .slice none 0 d]).run P w = .ok (.slice A n c) w := by
  obtain ⟨ht, i, z, hi, _⟩ := E
  rcases h.form with ⟨rfl, rfl, rfl⟩ | ⟨g, rfl, _, _, hnc⟩
  · simp [Builtin.append_, run_underlying ht, sizeOf, typeInfo, hi, Builtin.lenOf, Builtin.firstCells]
  · simp [Builtin.append_, run_underlying ht, sizeOf, typeInfo, hi, Builtin.lenOf, Builtin.firstCells, hnc, storeCells]

/-- 'append(own, src...)': the source is read wherever it lies. -/
theorem run_append_sl (E : Elem P t e bytes) (h : Own e w lo A n c vs) (hs : Sl w B X m news) (h1 : ∀ u ∈ news, u.oneCell' = true) (hb : (n + m) * bytes ≤ 140737488355328) (hm : n + m ≤ 4611686018427387904) (hlo : lo ≤ w.heap.size) :
    ∃ A' c' w', (Builtin.append_ #[t, t] ty #[.slice A n c, .slice X m d]).run P w = .ok (.slice A' (n + m) c') w' ∧ Own e w' lo A' (n + m) c' (vs ++ news) ∧ w.grownBy w' (A.map (·.block)) ∧
      (A'.map (·.block) = A.map (·.block) ∨ A'.map (·.block) = some w.heap.size) := by
  have hob : ∀ (A : Option Addr) (n c : Nat), (Value.slice A n c).ownBlock = A.map (·.block) := fun A n c => by cases A <;> rfl
  rcases X with _ | ad
  · have hm0 : m = 0 := by
      rcases Nat.eq_zero_or_pos m with h0 | h0
      · exact h0
      · obtain ⟨_, _, h, _⟩ := hs.2 h0; cases h
    subst hm0
    have hn : news = [] := List.eq_nil_of_length_eq_zero hs.1
    subst hn
    exact ⟨A, c, w, run_append_nothing E h, by simpa using h, World.grownBy.refl w _, .inl rfl⟩
  · obtain ⟨ht, i, z, hi, hz, hz1, hz2, hz3⟩ := E
    have hcells : ∀ j u, news[j]? = some u → w.cell? (ad.add j) = some u := by
      intro j u hu
      rcases Nat.eq_zero_or_pos m with h0 | h0
      · subst h0
        have hn : news = [] := List.eq_nil_of_length_eq_zero hs.1
        subst hn
        simp at hu
      · obtain ⟨b, off, h, _, hc⟩ := hs.2 h0
        injection h with h
        subst h
        rw [add_none]
        exact hc j u hu
    obtain ⟨v', w', hrun, h2, h3, _, h5⟩ := run_append_own_at (P := P) w lo t ty e i z 1 bytes ht hi hz hz1 hz2 hz3 (by omega) _ n vs h ad m d news (by rw [hs.1]; omega) hcells h1 (by unfold maxLen; omega) hb hlo
    have hv : ∃ A' c', v' = .slice A' (n + m) c' := by
      rcases h2.2 with ⟨rfl, h0⟩ | ⟨g, cap, cur, rfl, _⟩
      · exact ⟨none, 0, by rw [h0]⟩
      · exact ⟨_, _, rfl⟩
    obtain ⟨A', c', rfl⟩ := hv
    rw [hob] at h3
    rw [hob, hob] at h5
    exact ⟨A', c', w', hrun, h2, h3, h5⟩

theorem wp_append_sl {o : Oper} {a : Act} {K : Act → World → Prop} {Q : Exit → Act → World → Prop} (s x : Operand)
    (ho : o.op = .call { callee := .builtin .append, args := #[s, x], argTypes := #[t, t] }) (E : Elem P t e bytes)
    (hs' : a.eval s = .slice A n c) (hx' : a.eval x = .slice X m d) (h : Own e w lo A n c vs) (hs : Sl w B X m news) (h1 : ∀ u ∈ news, u.oneCell' = true) (hb : (n + m) * bytes ≤ 140737488355328) (hm : n + m ≤ 4611686018427387904) (hlo : lo ≤ w.heap.size)
    (hK : ∀ A' c' w', Apd e w lo A w' A' (n + m) c' (vs ++ news) → K (a.put o.dst (.slice A' (n + m) c')) w') : o.wp P a w K Q := by
  obtain ⟨A', c', w', hrun, h2, h3, h4⟩ := run_append_sl (ty := o.type) (d := d) E h hs h1 hb hm hlo
  unfold Oper.wp execOp
  simp only [ho, resolve, invoke, builtin, Sem.run_bind, Sem.run_pure, Result.andThen_ok, List.map_toArray, List.map_cons, List.map_nil, hs', hx', hrun]
  exact hK A' c' w' ⟨h2, h3, h4⟩

theorem wpList_append_sl {ops : Array Oper} {rest : List Oper} {o : Oper} {a : Act} {Q : Exit → Act → World → Prop} (hgd : o.guard = none) (s x : Operand)
    (ho : o.op = .call { callee := .builtin .append, args := #[s, x], argTypes := #[t, t] }) (E : Elem P t e bytes)
    (hs' : a.eval s = .slice A n c) (hx' : a.eval x = .slice X m d) (h : Own e w lo A n c vs) (hs : Sl w B X m news) (h1 : ∀ u ∈ news, u.oneCell' = true) (hb : (n + m) * bytes ≤ 140737488355328) (hm : n + m ≤ 4611686018427387904) (hlo : lo ≤ w.heap.size)
    (hK : ∀ A' c' w', Apd e w lo A w' A' (n + m) c' (vs ++ news) → wpList P ops Q rest (a.put o.dst (.slice A' (n + m) c')) w') :
    wpList P ops Q (o :: rest) a w :=
  wpList_plain hgd fun _ hK' => wp_append_sl s x ho E hs' hx' h hs h1 hb hm hlo fun A' c' w' h2 => hK' _ _ (hK A' c' w' h2)

theorem step_append_sl {ops : Array Oper} {o : Oper} {a : Act} {K : Act → World → Prop} {Q : Exit → Act → World → Prop} {G : Prop} (hgd : o.guard = none) (s x : Operand)
    (ho : o.op = .call { callee := .builtin .append, args := #[s, x], argTypes := #[t, t] }) (E : Elem P t e bytes)
    (hs' : a.eval s = .slice A n c) (hx' : a.eval x = .slice X m d) (h : Own e w lo A n c vs) (hs : Sl w B X m news) (h1 : ∀ u ∈ news, u.oneCell' = true) (hb : (n + m) * bytes ≤ 140737488355328) (hm : n + m ≤ 4611686018427387904) (hlo : lo ≤ w.heap.size)
    (hK : ∀ A' c' w', Apd e w lo A w' A' (n + m) c' (vs ++ news) → K (a.put o.dst (.slice A' (n + m) c')) w') :
    if Region.wanted o (yielded ops a.tmps) = true then Oper.wp P o a w K Q else G := by
  have hw : Region.wanted o (yielded ops a.tmps) = true := by simp [Region.wanted, hgd]
  rw [if_pos hw]
  exact wp_append_sl s x ho E hs' hx' h hs h1 hb hm hlo hK

/-- An empty literal. -/
theorem Own.empty (w : World) (e : TypeId) (hlo : lo ≤ w.heap.size) : Own e (w.alloc (.cells #[] e)) lo (some ⟨w.heap.size, 0, none⟩) 0 0 [] :=
  World.ownsRow_lit w #[] 0 hlo (by unfold maxLen; omega) rfl
/-- One new cell, the literal of one element. -/
theorem Sl.one (w : World) (u : Value) (e : TypeId) : Sl (w.alloc (.cells #[u] e)) (w.heap.size + 1) (some ⟨w.heap.size, 0, none⟩) 1 [u] := by
  refine ⟨rfl, fun _ => ⟨w.heap.size, 0, rfl, by omega, fun k v hv => ?_⟩⟩
  have := cell_one_new w u e k v hv
  rwa [add_none] at this
theorem Own.alloc (h : Own e w lo A n c vs) (o : Obj) : Own e (w.alloc o) lo A n c vs := World.ownsRow.alloc h o
theorem Sl.alloc (h : Sl w B A n vs) (hB : B ≤ w.heap.size) (o : Obj) : Sl (w.alloc o) B A n vs := h.keep fun p hp => World.cell?_alloc_lt w o p (by omega)
theorem SlI.alloc {zs : List Int} (h : SlI w B A n zs) (hB : B ≤ w.heap.size) (o : Obj) : SlI (w.alloc o) B A n zs := Sl.alloc h hB o
theorem oneCell_ints (zs : List Int) : ∀ u ∈ zs.map (Value.int .i64), u.oneCell' = true := ints_oneCell _ _
end
theorem Sl.oneAt {w : World} {H : Nat} (hH : w.heap.size = H) (u : Value) (e : TypeId) : Sl (w.alloc (.cells #[u] e)) (H + 1) (some ⟨H, 0, none⟩) 1 [u] := hH ▸ Sl.one w u e
theorem Own.emptyAt {w : World} {lo H : Nat} (hH : w.heap.size = H) (e : TypeId) (hlo : lo ≤ H) : Own e (w.alloc (.cells #[] e)) lo (some ⟨H, 0, none⟩) 0 0 [] := by subst hH; exact Own.empty w e hlo
theorem Own.drew {e : TypeId} {w : World} {lo n c : Nat} {A : Option Addr} {vs : List Value} (h : Own e w lo A n c vs) : Own e w.drew lo A n c vs := h
theorem Sl.drew {w : World} {B n : Nat} {A : Option Addr} {vs : List Value} (h : Sl w B A n vs) : Sl w.drew B A n vs := h
/-- A slice that is read lies in another block than the row that an append may write. -/
theorem Sl.apd {e : TypeId} {w w' : World} {lo B n n' c' : Nat} {A A' X : Option Addr} {vs vs' : List Value} (h : Sl w B X n vs) (hB : B ≤ w.heap.size) (ha : Apd e w lo A w' A' n' c' vs') (hne : ∀ p q, A = some p → X = some q → p.block ≠ q.block) : Sl w' B X n vs := by
  refine ⟨h.1, fun hn => ?_⟩
  obtain ⟨b, off, hX, hb, hc⟩ := h.2 hn
  refine ⟨b, off, hX, hb, fun k u hu => ?_⟩
  rw [← hc k u hu]
  refine World.cell?_of_block (ha.grew.block b (by omega) ?_)
  intro hh
  cases A with
  | none => cases hh
  | some p => simp at hh; exact hne p _ rfl hX hh.symm
/-- Behind a law that ends in 'grownBy': the row that may be written lies from B on. -/
theorem below_grown {B : Nat} {a w w' : World} {A : Option Addr} (h : Below B a w) (hg : w.grownBy w' (A.map (·.block))) (hB : B ≤ w.heap.size) (hr : ∀ p, A = some p → B ≤ p.block) : Below B a w' :=
  h.grown hg hB (by
    intro k hk
    cases A with
    | none => simp at hk
    | some p => simp at hk; subst hk; exact hr p rfl)
theorem Apd.below {B B0 : Nat} {e : TypeId} {a w w' : World} {lo n' c' : Nat} {A A' : Option Addr} {vs' : List Value} (h : Apd e w lo A w' A' n' c' vs') (hb : Below B a w) (hB : B ≤ w.heap.size) (hA : ∀ p, A = some p → B0 ≤ p.block) (hB0 : B ≤ B0) : Below B a w' :=
  below_grown hb h.grew hB (fun p hp => Nat.le_trans hB0 (hA p hp))
theorem Own.fromLo {e : TypeId} {w : World} {lo n c : Nat} {A : Option Addr} {vs : List Value} (h : Own e w lo A n c vs) : ∀ p, A = some p → lo ≤ p.block := by
  rintro p rfl
  rcases h.form with ⟨h, _⟩ | ⟨g, h, h1, _⟩
  · cases h
  · injection h with h; subst h; exact h1

/-- One store more into the row that may be written. -/
theorem _root_.Go.World.grownBy.step_set {w w' : World} {row : Option Nat} (h : w.grownBy w' row) {p : Addr} (hp : some p.block = row) (u : Value) : w.grownBy (w'.setCell p u) row :=
  ⟨h.os, h.tape, h.output, by simpa [World.setCell] using h.size, fun i hi hne => (Below.heap_setCell w' p u i (by rintro rfl; exact hne hp)).trans (h.block i hi hne)⟩

/-- Nothing that was there has turned. -/
def Ext (w w' : World) : Prop := Below w.heap.size w w'
theorem Ext.refl (w : World) : Ext w w := Below.refl _ _
theorem Ext.trans {a b c : World} (h : Ext a b) (k : Ext b c) : Ext a c := Below.trans h (k.mono h.size)
theorem Ext.size {a b : World} (h : Ext a b) : a.heap.size ≤ b.heap.size := Below.size h
theorem Ext.drewN (w : World) (n : Nat) : Ext w (w.drewN n) := ⟨rfl, rfl, rfl, Nat.le_refl _, fun _ _ => rfl⟩
theorem Ext.alloc (w : World) (o : Obj) : Ext w (w.alloc o) := (Below.refl _ _).alloc (Nat.le_refl _) o
theorem Ext.drew (w : World) : Ext w w.drew := ⟨rfl, rfl, rfl, Nat.le_refl _, fun _ _ => rfl⟩

/-- Of what was there only blocks from lo to below hi may have turned. -/
structure Tch (lo hi : Nat) (w w' : World) : Prop where
  os : w'.os = w.os
  tape : w'.tape = w.tape
  output : w'.output = w.output
  size : w.heap.size ≤ w'.heap.size
  block : ∀ k, k < w.heap.size → (k < lo ∨ hi ≤ k) → w'.heap[k]? = w.heap[k]?
theorem Tch.of_ext {lo hi : Nat} {w w' : World} (h : Ext w w') : Tch lo hi w w' := ⟨h.os, h.tape, h.output, h.size, fun k hk _ => h.block k hk⟩
theorem Tch.of_grown {lo hi : Nat} {w w' : World} {A : Option Addr} (h : w.grownBy w' (A.map (·.block))) (h1 : ∀ p, A = some p → lo ≤ p.block ∧ p.block < hi) : Tch lo hi w w' :=
  ⟨h.os, h.tape, h.output, h.size, fun k hk hr => h.block k hk (by
    intro e
    cases A with
    | none => simp at e
    | some p => simp at e; have := h1 p rfl; omega)⟩
theorem Tch.trans {lo hi : Nat} {a b c : World} (h : Tch lo hi a b) (k : Tch lo hi b c) : Tch lo hi a c :=
  ⟨k.os.trans h.os, k.tape.trans h.tape, k.output.trans h.output, Nat.le_trans h.size k.size, fun i hi hr => (k.block i (Nat.lt_of_lt_of_le hi h.size) hr).trans (h.block i hi hr)⟩
theorem Below.tch {B lo hi : Nat} {a w w' : World} (h : Below B a w) (k : Tch lo hi w w') (hB : B ≤ w.heap.size) (hlo : B ≤ lo) : Below B a w' :=
  h.trans ⟨k.os, k.tape, k.output, k.size, fun i hi => k.block i (by omega) (by omega)⟩
theorem Below.ext {B : Nat} {a w w' : World} (h : Below B a w) (k : Ext w w') (hB : B ≤ w.heap.size) : Below B a w' := h.trans (k.mono hB)

theorem own_conv {e : TypeId} {w : World} {lo lo' m m' c : Nat} {A : Option Addr} {vs : List Value} {zs : List Int} (h : Own e w lo A m c vs) (hl : lo' ≤ lo) (hm : m = m') (hv : vs = zs.map (Value.int .i64)) : OwnI e w lo' A m' c zs := by
  subst hm; subst hv; exact h.lower hl

/-- An object of the call's own: a row in a block from lo to below hi. -/
def Fr (e : TypeId) (w : World) (lo hi : Nat) (A : Option Addr) (n c : Nat) (vs : List Value) : Prop := Own e w lo A n c vs ∧ hi ≤ w.heap.size ∧ ∀ p, A = some p → p.block < hi
def FrI (e : TypeId) (w : World) (lo hi : Nat) (A : Option Addr) (n c : Nat) (zs : List Int) : Prop := Fr e w lo hi A n c (zs.map (Value.int .i64))
section
variable {e : TypeId} {w w' : World} {lo hi n c : Nat} {A : Option Addr} {vs : List Value} {zs : List Int}
theorem Own.fr (h : Own e w lo A n c vs) : Fr e w lo w.heap.size A n c vs :=
  ⟨h, Nat.le_refl _, fun p hp => by
    rcases h.form with ⟨hA, _⟩ | ⟨g, hA, _, h2, _⟩
    · rw [hA] at hp; cases hp
    · rw [hA] at hp; injection hp with hp; subst hp; exact h2⟩
theorem OwnI.fr (h : OwnI e w lo A n c zs) : FrI e w lo w.heap.size A n c zs := Own.fr h
theorem FrI.own (h : FrI e w lo hi A n c zs) : OwnI e w lo A n c zs := h.1
theorem FrI.sl (h : FrI e w lo hi A n c zs) : SlI w w.heap.size A n zs := OwnI.sl h.1
theorem FrI.len (h : FrI e w lo hi A n c zs) : zs.length = n := OwnI.len h.1
theorem FrI.at_ (h : FrI e w lo hi A n c zs) : ∀ p, A = some p → lo ≤ p.block ∧ p.block < hi := fun p hp => ⟨Own.fromLo h.1 p hp, h.2.2 p hp⟩
theorem Fr.tch {lo' hi' : Nat} (h : Fr e w lo hi A n c vs) (k : Tch lo' hi' w w') (hd : hi ≤ lo' ∨ hi' ≤ lo) : Fr e w' lo hi A n c vs := by
  refine ⟨⟨h.1.1, ?_⟩, Nat.le_trans h.2.1 k.size, h.2.2⟩
  rcases h.1.2 with hh | ⟨g, cap, cur, hh, h1, h2, r⟩
  · exact .inl hh
  · refine .inr ⟨g, cap, cur, hh, h1, ?_, r⟩
    simp only [Value.slice.injEq] at hh
    have := h.2.2 _ hh.1
    rw [k.block g (Nat.lt_of_lt_of_le this h.2.1) (by rcases hd with hd | hd <;> simp at this <;> omega), h2]
theorem Fr.ext (h : Fr e w lo hi A n c vs) (k : Ext w w') : Fr e w' lo hi A n c vs := h.tch (Tch.of_ext (lo := hi) (hi := hi) k) (.inl (Nat.le_refl _))
theorem FrI.tch {lo' hi' : Nat} (h : FrI e w lo hi A n c zs) (k : Tch lo' hi' w w') (hd : hi ≤ lo' ∨ hi' ≤ lo) : FrI e w' lo hi A n c zs := Fr.tch h k hd
theorem FrI.ext (h : FrI e w lo hi A n c zs) (k : Ext w w') : FrI e w' lo hi A n c zs := Fr.ext h k
theorem SlI.ext {B : Nat} (h : SlI w B A n zs) (k : Ext w w') (hB : B ≤ w.heap.size) : SlI w' B A n zs := h.below (k.mono hB)
end

/-- An int that fits. -/
def InR (x : Int) : Prop := -9223372036854775808 ≤ x ∧ x ≤ 9223372036854775807
/-- A slice of numbers that came in. -/
structure ArgI (w : World) (A : Option Addr) (n c : Nat) (zs : List Int) : Prop where
  sl : SlI w w.heap.size A n zs
  cap : n ≤ c
  capm : c ≤ 9223372036854775807
  inr : ∀ z ∈ zs, InR z

theorem Sl.apdLo {e : TypeId} {w w' : World} {lo B n n' c' : Nat} {A A' X : Option Addr} {vs vs' : List Value} (h : Sl w B X n vs) (hB : B ≤ w.heap.size) (ha : Apd e w lo A w' A' n' c' vs') (hA : ∀ p, A = some p → B ≤ p.block) : Sl w' B X n vs := by
  refine ⟨h.1, fun hn => ?_⟩
  obtain ⟨b, off, hX, hb, hc⟩ := h.2 hn
  refine ⟨b, off, hX, hb, fun k u hu => ?_⟩
  rw [← hc k u hu]
  refine World.cell?_of_block (ha.grew.block b (by omega) ?_)
  intro hh
  cases A with
  | none => cases hh
  | some p => simp at hh; have := hA p rfl; omega
theorem Apd.ext {e : TypeId} {a w w' : World} {lo n' c' : Nat} {A A' : Option Addr} {vs' : List Value} (h : Apd e w lo A w' A' n' c' vs') (hx : Ext a w) (hA : ∀ p, A = some p → a.heap.size ≤ p.block) : Ext a w' :=
  below_grown hx h.grew hx.size hA
theorem Apd.size {e : TypeId} {w w' : World} {lo n' c' : Nat} {A A' : Option Addr} {vs' : List Value} (h : Apd e w lo A w' A' n' c' vs') : w.heap.size ≤ w'.heap.size := h.grew.size
theorem not_t {b : Bool} (h : (!b) = true) : b = false := by simpa using h
theorem not_f {b : Bool} (h : (!b) = false) : b = true := by simpa using h
theorem ret_bool {a b : Bool} (h : a = b) : Ending.returned (.bool a) = .returned (.bool b) := by rw [h]
theorem ret_int {a b : Int} (h : a = b) : Ending.returned (.int .i64 a) = .returned (.int .i64 b) := by rw [h]
end Go.Proofs.YtnokilofcdbjhaaGreatDoor

namespace Go.Proofs.YtnokilofcdbjhaaGreatDoor
open Go.RowKit

def inB (lo hi n : Int) : Bool := decide (lo ≤ n) && decide (n ≤ hi)
theorem inB_no {lo hi n : Int} (h : n < lo) : inB lo hi n = false := by simp [inB]; omega

theorem i.within_any (n lo hi : Int) (w : World) :
    Calls Tryz.prog 46 #[.int .i64 n, .int .i64 lo, .int .i64 hi] w fun e w' => e = .returned (.bool (inB lo hi n)) ∧ w = w' := by
  go_enter Tryz.func46, Tryz.ntmps46
  go_wp2
  all_goals go_ret
  · exact ⟨by simp_all [inB], rfl⟩
  · exact ⟨ret_bool (inB_no ‹_›).symm, rfl⟩

theorem s.l1In_any (n lo hi : Int) (w : World) :
    Calls Tryz.prog 63 #[.int .i64 n, .int .i64 lo, .int .i64 hi] w fun e w' => e = .returned (.bool (inB lo hi n)) ∧ w = w' := by
  go_enter Tryz.func63, Tryz.ntmps63
  go_wp2
  all_goals go_ret
  · exact ⟨by simp_all [inB], rfl⟩
  · exact ⟨ret_bool (inB_no ‹_›).symm, rfl⟩

theorem all_step {f : Int → Bool} {zs : List Int} {k : Nat} (hk : k < zs.length) (h : (zs.take k).all f = true) (h1 : f (zs.getD k 0) = true) : (zs.take (k + 1)).all f = true := by
  rw [take_succ_getD k hk, List.all_append, h]; simpa using h1
theorem all_stop {f : Int → Bool} {zs : List Int} {k : Nat} (hk : k < zs.length) (h1 : f (zs.getD k 0) = false) : zs.all f = false := by
  rw [List.all_eq_false]
  exact ⟨zs[k], List.getElem_mem hk, by simp_all⟩
theorem all_end {f : Int → Bool} {zs : List Int} {k : Nat} (hk : ¬ k < zs.length) (h : (zs.take k).all f = true) : zs.all f = true := by
  rwa [List.take_of_length_le (by omega)] at h

theorem i.allWithin_any (A : Option Addr) (n c B : Nat) (zs : List Int) (lo hi : Int) (w : World) (h : SlI w B A n zs) (hn : n ≤ 1048576) :
    Calls Tryz.prog 55 #[.slice A n c, .int .i64 lo, .int .i64 hi] w fun e w' => e = .returned (.bool (zs.all (inB lo hi))) ∧ w = w' := by
  go_enter Tryz.func55, Tryz.ntmps55
  go_wp2
  go_loop [8, 11] (fun _ i => ∃ k : Nat, k ≤ n ∧ i = .int .i64 k ∧ (zs.take k).all (inB lo hi) = true) (fun _ i => n - (intOf i).toNat)
  case atStart => exact ⟨0, Nat.zero_le _, rfl, rfl⟩
  case round =>
    obtain ⟨k, hk, rfl, hall⟩ := hrel
    have H := hide hall; clear hall
    have hl := hide h.len
    by_cases hlt : k < n
    · obtain ⟨b, off, rfl, hb, hc⟩ := h.cells (by omega)
      have hck := hc k hlt
      clear hc
      go_wp2_with (go_at_call 46; refine (i.within_any _ _ _ _).mono ?_; rintro e w' ⟨rfl, rfl⟩)
      · go_ret
        exact ⟨ret_bool (all_stop (k := k) (by have := hl.out; omega) (not_t (by assumption))).symm, rfl⟩
      · go_round
        case rel => exact ⟨k + 1, by omega, by go_num, all_step (by have := hl.out; omega) H.out (not_f (by assumption))⟩
        case measure => simp [intOf]; omega
    · go_wp2
      go_ret
      exact ⟨ret_bool (all_end (by have := hl.out; omega) H.out).symm, rfl⟩

theorem s.l1All_any (A : Option Addr) (n c B : Nat) (zs : List Int) (lo hi : Int) (w : World) (h : SlI w B A n zs) (hn : n ≤ 1048576) :
    Calls Tryz.prog 78 #[.slice A n c, .int .i64 lo, .int .i64 hi] w fun e w' => e = .returned (.bool (zs.all (inB lo hi))) ∧ w = w' := by
  go_enter Tryz.func78, Tryz.ntmps78
  go_wp2
  go_loop [8, 11] (fun _ i => ∃ k : Nat, k ≤ n ∧ i = .int .i64 k ∧ (zs.take k).all (inB lo hi) = true) (fun _ i => n - (intOf i).toNat)
  case atStart => exact ⟨0, Nat.zero_le _, rfl, rfl⟩
  case round =>
    obtain ⟨k, hk, rfl, hall⟩ := hrel
    have H := hide hall; clear hall
    have hl := hide h.len
    by_cases hlt : k < n
    · obtain ⟨b, off, rfl, hb, hc⟩ := h.cells (by omega)
      have hck := hc k hlt
      clear hc
      go_wp2_with (go_at_call 63; refine (s.l1In_any _ _ _ _).mono ?_; rintro e w' ⟨rfl, rfl⟩)
      · go_ret
        exact ⟨ret_bool (all_stop (k := k) (by have := hl.out; omega) (not_t (by assumption))).symm, rfl⟩
      · go_round
        case rel => exact ⟨k + 1, by omega, by go_num, all_step (by have := hl.out; omega) H.out (not_f (by assumption))⟩
        case measure => simp [intOf]; omega
    · go_wp2
      go_ret
      exact ⟨ret_bool (all_end (by have := hl.out; omega) H.out).symm, rfl⟩

end Go.Proofs.YtnokilofcdbjhaaGreatDoor

namespace Go.Proofs.YtnokilofcdbjhaaGreatDoor
open Go.RowKit

theorem info_int : (Tryz.prog.info? 3).map (fun i => (i.zero, i.size, i.bytes)) = some (some (.int .i64 0), 1, 8) := by kernel_rfl

/-- What is copied so far: the first k numbers, then zeros. -/
def part (zs : List Int) (k : Nat) : List Int := zs.take k ++ List.replicate (zs.length - k) 0
theorem part_zero (zs : List Int) : part zs 0 = List.replicate zs.length 0 := by simp [part]
theorem part_all (zs : List Int) (k : Nat) (h : ¬ k < zs.length) : part zs k = zs := by
  unfold part
  rw [List.take_of_length_le (by omega), show zs.length - k = 0 by omega]; simp
theorem part_set (zs : List Int) (k : Nat) (h : k < zs.length) : (part zs k).set k (zs.getD k 0) = part zs (k + 1) := by
  unfold part
  rw [take_succ_getD k h, List.set_append_right _ _ (by simp; omega)]
  have e : zs.length - k = (zs.length - (k + 1)) + 1 := by omega
  rw [e, List.replicate_succ]
  simp [Nat.min_eq_left (Nat.le_of_lt h)]
theorem part_made (zs : List Int) (n : Nat) (h : zs.length = n) : (madeCells #[Value.int .i64 0] n).toList = (part zs 0).map (Value.int .i64) := by
  rw [part_zero, h]
  rw [toList_madeCells_one]
  simp

end Go.Proofs.YtnokilofcdbjhaaGreatDoor

namespace Go.Proofs.YtnokilofcdbjhaaGreatDoor
open Go.RowKit

/-- n numbers from k on. -/
def upFrom (k : Int) (n : Nat) : List Int := (List.range n).map fun i : Nat => k + (i : Int)
theorem upFrom_len (k : Int) (n : Nat) : (upFrom k n).length = n := by simp [upFrom]
theorem upFrom_at (k : Int) (n j : Nat) (h : j < n) : (upFrom k n).getD j 0 = k + j := by simp [upFrom, h]
/-- The row in which the first j numbers have been marked. -/
def marked (k : Int) (zs : List Int) (j : Nat) : List Int := upFrom k j ++ zs.drop j
theorem marked_zero (k : Int) (zs : List Int) : marked k zs 0 = zs := by simp [marked, upFrom]
theorem marked_all (k : Int) (zs : List Int) (j n : Nat) (h : zs.length = n) (hj : ¬ j < n) (hj' : j ≤ n) : marked k zs j = upFrom k n := by
  have : j = n := by omega
  subst this
  simp [marked, ← h]
theorem marked_set (k : Int) (zs : List Int) (j : Nat) (h : j < zs.length) : (marked k zs j).set j (k + j) = marked k zs (j + 1) := by
  unfold marked
  rw [List.set_append_right _ _ (by simp [upFrom_len])]
  rw [upFrom_len, Nat.sub_self, List.drop_eq_getElem_cons h, List.set_cons_zero]
  simp [upFrom, List.range_succ]

/-- Valid marks of judges. -/
def goodMarks (zs : List Int) : Bool := inB 1 9 zs.length && zs.all (inB (-1000) 1000)

theorem elem_int : Elem Tryz.prog 31 3 8 := Elem.mk Tryz.underlying31 info_int rfl

/-- A copy in new memory, by appending to an empty slice. -/
theorem i.copyInts_any (A : Option Addr) (n c B : Nat) (zs : List Int) (w : World) (h : SlI w B A n zs) (hB : B ≤ w.heap.size) (hn : n ≤ 1048576) :
    Calls Tryz.prog 80 #[.slice A n c] w fun e w' => ∃ A' c', e = .returned (.slice A' n c') ∧ OwnI 3 w' w.heap.size A' n c' zs ∧ Ext w w' := by
  have H := hide h
  clear h
  go_enter Tryz.func80, Tryz.ntmps80
  go_wp2_with (at_builtin; refine wpList_append_sl rfl (.tmp 3) (.tmp 4) rfl elem_int rfl rfl (Own.empty w 3 (Nat.le_refl _)) (H.out.alloc hB _) (oneCell_ints zs) ?c1 ?c2 ?c3 ?_)
  case c1 => omega
  case c2 => omega
  case c3 => simp
  intro A' c' w' hap
  go_wp2
  go_ret
  exact ⟨A', c', rfl, hap.own, hap.below ((Below.refl w.heap.size w).alloc (Nat.le_refl _) _) (by simp) (fun p hp => by cases hp; exact Nat.le_refl _) (Nat.le_refl _)⟩

end Go.Proofs.YtnokilofcdbjhaaGreatDoor

namespace Go.Proofs.YtnokilofcdbjhaaGreatDoor
open Go.RowKit

theorem s.l1Own_any (A : Option Addr) (n c B : Nat) (zs : List Int) (w : World) (h : SlI w B A n zs) (hB : B ≤ w.heap.size) (hn : n ≤ 1048576) :
    Calls Tryz.prog 67 #[.slice A n c] w fun e w' => ∃ A' c', e = .returned (.slice A' n c') ∧ OwnI 3 w' w.heap.size A' n c' zs ∧ Ext w w' := by
  have H := hide h
  clear h
  go_enter Tryz.func67, Tryz.ntmps67
  go_wp2_with (at_builtin; refine wpList_append_sl rfl (.tmp 3) (.tmp 4) rfl elem_int rfl rfl (Own.empty w 3 (Nat.le_refl _)) (H.out.alloc hB _) (oneCell_ints zs) ?c1 ?c2 ?c3 ?_)
  case c1 => omega
  case c2 => omega
  case c3 => simp
  intro A' c' w' hap
  go_wp2
  go_ret
  exact ⟨A', c', rfl, hap.own, hap.below ((Below.refl w.heap.size w).alloc (Nat.le_refl _) _) (by simp) (fun p hp => by cases hp; exact Nat.le_refl _) (Nat.le_refl _)⟩

/-- Valid marks with a judge k. -/
def hasMark (zs : List Int) (k : Int) : Bool := goodMarks zs && inB 0 ((zs.length : Int) - 1) k
theorem hasMark_ok {zs : List Int} {k : Int} (h : hasMark zs k = true) : goodMarks zs = true ∧ 1 ≤ zs.length ∧ zs.length ≤ 9 ∧ 0 ≤ k ∧ k < zs.length := by
  simp only [hasMark, goodMarks, inB, Bool.and_eq_true, decide_eq_true_eq] at h
  obtain ⟨⟨⟨h1, h2⟩, h3⟩, h4, h5⟩ := h
  refine ⟨?_, by omega, by omega, by omega, by omega⟩
  simp only [goodMarks, inB, Bool.and_eq_true, decide_eq_true_eq]
  exact ⟨⟨h1, h2⟩, h3⟩

/-- The result of WithMark. -/
def withMarkF (zs : List Int) (k m : Int) : List Int × Bool := if hasMark zs k && inB (-1000) 1000 m then (zs.set k.toNat m, true) else ([], false)

/-- What a function that returns a list in new memory and a bool leaves. -/
def RetLB (e : TypeId) (w : World) (r : List Int × Bool) (x : Ending) (w' : World) : Prop :=
  ∃ A' c', x = .returned (.tuple #[.slice A' r.1.length c', .bool r.2]) ∧ OwnI e w' w.heap.size A' r.1.length c' r.1 ∧ Ext w w'

section
variable {e : TypeId} {w w' : World} {n c' : Nat} {A' : Option Addr} {zs : List Int} {r : List Int × Bool}
theorem RetLB.no (h : r = ([], false)) : RetLB e w r (.returned (.tuple #[.slice none 0 0, .bool false])) w := by
  subst h; exact ⟨none, 0, rfl, OwnI.nil, Ext.refl _⟩
theorem RetLB.yes (h : r = (zs, true)) (hl : zs.length = n) (hown : OwnI e w' w.heap.size A' n c' zs) (hx : Ext w w') : RetLB e w r (.returned (.tuple #[.slice A' n c', .bool true])) w' := by
  subst h; subst hl; exact ⟨A', c', rfl, hown, hx⟩
end

end Go.Proofs.YtnokilofcdbjhaaGreatDoor

/- Kinds of data as the laws hand them about: what it means that a value reads as a datum, that it is an object of the call's own; and what the laws' helpers do with them. -/
namespace Go.Proofs.YtnokilofcdbjhaaGreatDoor
open Go.RowKit

structure Kind (D : Type) where
  rd : World → Value → D → Prop
  fr : World → Nat → Nat → Value → D → Prop
  ok : D → Prop
  mrk : Int → D → D
  cnt : D → Nat
  rd_ext : ∀ {w w' : World} {v : Value} {d : D}, rd w v d → Ext w w' → rd w' v d
  fr_rd : ∀ {w : World} {lo hi : Nat} {v : Value} {d : D}, fr w lo hi v d → rd w v d
  fr_tch : ∀ {w w' : World} {lo hi lo' hi' : Nat} {v : Value} {d : D}, fr w lo hi v d → Tch lo' hi' w w' → (hi ≤ lo' ∨ hi' ≤ lo) → fr w' lo hi v d
  ok_cnt : ∀ {d : D}, ok d → cnt d ≤ 8388608

section
variable {D : Type} {K : Kind D} {w w' : World} {lo hi : Nat} {v : Value} {d : D}
theorem Kind.fr_ext (K : Kind D) (h : K.fr w lo hi v d) (k : Ext w w') : K.fr w' lo hi v d := K.fr_tch h (Tch.of_ext (lo := hi) (hi := hi) k) (.inl (Nat.le_refl _))
end

theorem Ext.tch {lo hi : Nat} {a w w' : World} (h : Ext a w) (k : Tch lo hi w w') (hlo : a.heap.size ≤ lo) : Ext a w' := Below.tch h k h.size hlo

section
variable {D : Type} (P : Program) (K : Kind D) (f : FuncId)
def ToC : Prop := ∀ (w : World) (v : Value) (d : D), K.rd w v d → K.ok d → Calls P f #[v] w fun e w' => ∃ v', e = .returned v' ∧ K.fr w' w.heap.size w'.heap.size v' d ∧ Ext w w'
def EqC : Prop := ∀ (w : World) (v v' : Value) (d : D), K.rd w v d → K.rd w v' d → K.ok d → Calls P f #[v, v'] w fun e w' => e = .returned (.bool true) ∧ Ext w w'
def MarkC : Prop := ∀ (w : World) (lo hi : Nat) (v : Value) (d : D) (k : Int), K.fr w lo hi v d → K.ok d → 0 ≤ k → k ≤ 4294967296 →
  Calls P f #[v, .int .i64 k] w fun e w' => e = .returned (.int .i64 (k + K.cnt d)) ∧ K.fr w' lo hi v (K.mrk k d) ∧ Tch lo hi w w'
def HeldC : Prop := ∀ (w : World) (v : Value) (d : D) (k : Int), K.rd w v (K.mrk k d) → K.ok d → 0 ≤ k → k ≤ 4294967296 →
  Calls P f #[v, .int .i64 k] w fun e w' => e = .returned (.int .i64 (k + K.cnt d)) ∧ Ext w w'
end

/-- Lists of numbers. -/
def kI : Kind (List Int) where
  rd w v zs := ∃ A c, v = .slice A zs.length c ∧ SlI w w.heap.size A zs.length zs ∧ zs.length ≤ c ∧ c ≤ 9223372036854775807
  fr w lo hi v zs := ∃ A c, v = .slice A zs.length c ∧ FrI 3 w lo hi A zs.length c zs
  ok zs := zs.length ≤ 1048576
  mrk k zs := upFrom k zs.length
  cnt zs := zs.length
  rd_ext := by
    rintro w w' v d ⟨A, c, rfl, h, hc⟩ hx
    exact ⟨A, c, rfl, (h.ext hx (Nat.le_refl _)).more hx.size, hc⟩
  fr_rd := by
    rintro w lo hi v d ⟨A, c, rfl, h⟩
    exact ⟨A, c, rfl, h.sl, h.own.capn, h.own.capm⟩
  fr_tch := by
    rintro w w' lo hi lo' hi' v d ⟨A, c, rfl, h⟩ k hd
    exact ⟨A, c, rfl, h.tch k hd⟩
  ok_cnt := fun h => Nat.le_trans h (by decide)

end Go.Proofs.YtnokilofcdbjhaaGreatDoor

namespace Go.Proofs.YtnokilofcdbjhaaGreatDoor
open Go.RowKit

theorem RetLB.law {w w' : World} {r : List Int × Bool} {x : Ending} (h : RetLB 3 w r x w') (ho : kI.ok r.1) :
    ∃ v, x = .returned (.tuple #[v, .bool r.2]) ∧ kI.fr w' w.heap.size w'.heap.size v r.1 ∧ kI.ok r.1 ∧ Ext w w' := by
  obtain ⟨A, c, rfl, h1, h2⟩ := h
  exact ⟨_, rfl, ⟨A, c, rfl, h1.fr⟩, ho, h2⟩

theorem withMarkF_ok (zs : List Int) (k m : Int) (h : kI.ok zs) : kI.ok (withMarkF zs k m).1 := by
  show (withMarkF zs k m).1.length ≤ 1048576
  have : zs.length ≤ 1048576 := h
  unfold withMarkF
  split
  · simpa using this
  · simp
end Go.Proofs.YtnokilofcdbjhaaGreatDoor

/- Plain laws on lists of numbers, of no program: sums, greatest and least, the sorted list, fractions. -/
namespace Go.Proofs.YtnokilofcdbjhaaGreatDoor
open Go.RowKit

/-! ### Sums -/
def Small (zs : List Int) : Prop := ∀ z ∈ zs, -1000000000 ≤ z ∧ z ≤ 1000000000
theorem sum_append (a b : List Int) : (a ++ b).sum = a.sum + b.sum := by
  induction a with
  | nil => simp
  | cons x a ih => simp [ih]; omega
theorem sum_bound (zs : List Int) (h : Small zs) : -(1000000000 * (zs.length : Int)) ≤ zs.sum ∧ zs.sum ≤ 1000000000 * (zs.length : Int) := by
  induction zs with
  | nil => simp
  | cons x a ih =>
    have h1 := h x (by simp)
    have h2 := ih (fun z hz => h z (by simp [hz]))
    simp only [List.sum_cons, List.length_cons]
    omega
theorem Small.take {zs : List Int} (h : Small zs) (k : Nat) : Small (zs.take k) := fun z hz => h z (List.mem_of_mem_take hz)
theorem Small.getD {zs : List Int} (h : Small zs) (k : Nat) : -1000000000 ≤ zs.getD k 0 ∧ zs.getD k 0 ≤ 1000000000 := by
  by_cases hk : k < zs.length
  · have := h zs[k] (List.getElem_mem hk)
    simpa [List.getElem?_eq_getElem hk] using this
  · simp [List.getElem?_eq_none (Nat.le_of_not_lt hk)]
theorem sum_take_succ (zs : List Int) (k : Nat) (h : k < zs.length) : (zs.take (k + 1)).sum = (zs.take k).sum + zs.getD k 0 := by
  rw [take_succ_getD k h, sum_append]; simp
theorem sum_take_bound (zs : List Int) (k n : Nat) (h : Small zs) (hk : k ≤ n) (hn : n ≤ 1048576) : -1048576000000000 ≤ (zs.take k).sum ∧ (zs.take k).sum ≤ 1048576000000000 := by
  have h1 := sum_bound _ (h.take k)
  have h2 : (zs.take k).length ≤ k := List.length_take_le _ _
  omega
theorem sum_take_all (zs : List Int) (k : Nat) (h : ¬ k < zs.length) : (zs.take k).sum = zs.sum := by rw [List.take_of_length_le (by omega)]

/-! ### Greatest and least -/
def maxL (zs : List Int) : Int := zs.foldl max (zs.headD 0)
def minL (zs : List Int) : Int := zs.foldl min (zs.headD 0)
def maxTo (zs : List Int) (k : Nat) : Int := (zs.take k).foldl max (zs.headD 0)
def minTo (zs : List Int) (k : Nat) : Int := (zs.take k).foldl min (zs.headD 0)
theorem maxTo_one (zs : List Int) (h : 0 < zs.length) : maxTo zs 1 = zs.getD 0 0 := by
  cases zs with
  | nil => simp at h
  | cons x a => simp [maxTo, Int.max_self]
theorem minTo_one (zs : List Int) (h : 0 < zs.length) : minTo zs 1 = zs.getD 0 0 := by
  cases zs with
  | nil => simp at h
  | cons x a => simp [minTo, Int.min_self]
theorem maxTo_succ (zs : List Int) (k : Nat) (h : k < zs.length) : maxTo zs (k + 1) = max (maxTo zs k) (zs.getD k 0) := by
  unfold maxTo; rw [take_succ_getD k h, List.foldl_append]; rfl
theorem minTo_succ (zs : List Int) (k : Nat) (h : k < zs.length) : minTo zs (k + 1) = min (minTo zs k) (zs.getD k 0) := by
  unfold minTo; rw [take_succ_getD k h, List.foldl_append]; rfl
theorem maxTo_all (zs : List Int) (k : Nat) (h : ¬ k < zs.length) : maxTo zs k = maxL zs := by unfold maxTo maxL; rw [List.take_of_length_le (by omega)]
theorem minTo_all (zs : List Int) (k : Nat) (h : ¬ k < zs.length) : minTo zs k = minL zs := by unfold minTo minL; rw [List.take_of_length_le (by omega)]
theorem foldl_max_ge (zs : List Int) (a : Int) : a ≤ zs.foldl max a ∧ (∀ z ∈ zs, z ≤ zs.foldl max a) ∧ (zs.foldl max a = a ∨ zs.foldl max a ∈ zs) := by
  induction zs generalizing a with
  | nil => simp
  | cons x t ih =>
    obtain ⟨h1, h2, h3⟩ := ih (max a x)
    simp only [List.foldl_cons, List.mem_cons]
    refine ⟨by omega, ?_, ?_⟩
    · rintro z (rfl | hz)
      · omega
      · exact h2 z hz
    · rcases h3 with h3 | h3
      · by_cases hx : a ≤ x
        · exact .inr (.inl (by omega))
        · exact .inl (by omega)
      · exact .inr (.inr h3)
theorem foldl_min_le (zs : List Int) (a : Int) : zs.foldl min a ≤ a ∧ (∀ z ∈ zs, zs.foldl min a ≤ z) ∧ (zs.foldl min a = a ∨ zs.foldl min a ∈ zs) := by
  induction zs generalizing a with
  | nil => simp
  | cons x t ih =>
    obtain ⟨h1, h2, h3⟩ := ih (min a x)
    simp only [List.foldl_cons, List.mem_cons]
    refine ⟨by omega, ?_, ?_⟩
    · rintro z (rfl | hz)
      · omega
      · exact h2 z hz
    · rcases h3 with h3 | h3
      · by_cases hx : a ≤ x
        · exact .inl (by omega)
        · exact .inr (.inl (by omega))
      · exact .inr (.inr h3)
theorem maxL_spec (zs : List Int) (h : zs ≠ []) : maxL zs ∈ zs ∧ ∀ z ∈ zs, z ≤ maxL zs := by
  cases zs with
  | nil => exact absurd rfl h
  | cons x t =>
    obtain ⟨h1, h2, h3⟩ := foldl_max_ge (x :: t) x
    refine ⟨?_, h2⟩
    rcases h3 with h3 | h3
    · show List.foldl max x (x :: t) ∈ _; rw [h3]; simp
    · exact h3
theorem minL_spec (zs : List Int) (h : zs ≠ []) : minL zs ∈ zs ∧ ∀ z ∈ zs, minL zs ≤ z := by
  cases zs with
  | nil => exact absurd rfl h
  | cons x t =>
    obtain ⟨h1, h2, h3⟩ := foldl_min_le (x :: t) x
    refine ⟨?_, h2⟩
    rcases h3 with h3 | h3
    · show List.foldl min x (x :: t) ∈ _; rw [h3]; simp
    · exact h3

/-! ### The list with the greatest first, by insertion -/
/-- Where a number is inserted: behind the last that is not less, looked for from place k down. -/
def posD (out : List Int) (n : Int) : Nat → Nat
  | 0 => 0
  | k + 1 => if out.getD k 0 < n then posD out n k else k + 1
theorem posD_le (out : List Int) (n : Int) (k : Nat) : posD out n k ≤ k := by
  induction k with
  | zero => exact Nat.le_refl _
  | succ k ih => unfold posD; split <;> omega
theorem posD_lt (out : List Int) (n : Int) (k i : Nat) (h1 : posD out n k ≤ i) (h2 : i < k) : out.getD i 0 < n := by
  induction k with
  | zero => omega
  | succ k ih =>
    unfold posD at h1
    split at h1
    · by_cases hi : i = k
      · subst hi; assumption
      · exact ih h1 (by omega)
    · omega
theorem posD_ge (out : List Int) (n : Int) (k : Nat) (h : 0 < posD out n k) : n ≤ out.getD (posD out n k - 1) 0 := by
  induction k with
  | zero => simp [posD] at h
  | succ k ih =>
    unfold posD at h ⊢
    split
    · rename_i hc; rw [if_pos hc] at h; exact ih h
    · simp; rename_i hc; simpa using hc
def insD (out : List Int) (n : Int) : List Int := out.take (posD out n out.length) ++ n :: out.drop (posD out n out.length)
def sortD (zs : List Int) : List Int := zs.foldl insD []
theorem insD_perm (out : List Int) (n : Int) : (insD out n).Perm (n :: out) := by
  unfold insD
  refine List.perm_middle.trans (List.Perm.cons _ ?_)
  rw [List.take_append_drop]
theorem insD_len (out : List Int) (n : Int) : (insD out n).length = out.length + 1 := by simpa using (insD_perm out n).length_eq
theorem insD_sorted (out : List Int) (n : Int) (h : out.Pairwise (· ≥ ·)) : (insD out n).Pairwise (· ≥ ·) := by
  have hp := posD_le out n out.length
  unfold insD
  rw [List.pairwise_append]
  have hsub := List.pairwise_iff_getElem.1 h
  refine ⟨h.sublist (List.take_sublist _ _), ?_, ?_⟩
  · rw [List.pairwise_cons]
    refine ⟨?_, h.sublist (List.drop_sublist _ _)⟩
    intro a ha
    obtain ⟨i, hi, rfl⟩ := List.getElem_of_mem ha
    simp only [List.length_drop] at hi
    have := posD_lt out n out.length (posD out n out.length + i) (by omega) (by omega)
    simp [List.getElem?_eq_getElem (show posD out n out.length + i < out.length by omega)] at this
    simp
    omega
  · intro a ha b hb
    obtain ⟨i, hi, rfl⟩ := List.getElem_of_mem ha
    simp only [List.length_take] at hi
    have hpos : 0 < posD out n out.length := by omega
    have hge := posD_ge out n out.length hpos
    simp [List.getElem?_eq_getElem (show posD out n out.length - 1 < out.length by omega)] at hge
    have hle : out[posD out n out.length - 1]'(by omega) ≤ out[i]'(by omega) := by
      by_cases he : i = posD out n out.length - 1
      · subst he; exact Int.le_refl _
      · exact hsub i (posD out n out.length - 1) (by omega) (by omega) (by omega)
    have hna : n ≤ out[i]'(by omega) := Int.le_trans hge hle
    simp only [List.getElem_take]
    rcases List.mem_cons.1 hb with rfl | hb
    · exact hna
    · obtain ⟨j, hj, rfl⟩ := List.getElem_of_mem hb
      simp only [List.length_drop] at hj
      simp only [List.getElem_drop]
      exact hsub i (posD out n out.length + j) (by omega) (by omega) (by omega)
theorem foldl_insD (zs out : List Int) (h : out.Pairwise (· ≥ ·)) : (zs.foldl insD out).Pairwise (· ≥ ·) ∧ (zs.foldl insD out).Perm (zs ++ out) := by
  induction zs generalizing out with
  | nil => exact ⟨h, List.Perm.refl _⟩
  | cons x t ih =>
    obtain ⟨h1, h2⟩ := ih (insD out x) (insD_sorted out x h)
    refine ⟨h1, h2.trans ?_⟩
    refine (List.Perm.append_left t (insD_perm out x)).trans ?_
    exact List.perm_middle
theorem sortD_sorted (zs : List Int) : (sortD zs).Pairwise (· ≥ ·) := (foldl_insD zs [] List.Pairwise.nil).1
theorem sortD_perm (zs : List Int) : (sortD zs).Perm zs := by simpa [sortD] using (foldl_insD zs [] List.Pairwise.nil).2
theorem sortD_len (zs : List Int) : (sortD zs).length = zs.length := (sortD_perm zs).length_eq
theorem sortD_take_succ (zs : List Int) (k : Nat) (h : k < zs.length) : sortD (zs.take (k + 1)) = insD (sortD (zs.take k)) (zs.getD k 0) := by
  unfold sortD; rw [take_succ_getD k h, List.foldl_append]; rfl
theorem sortD_head (zs : List Int) (h : zs ≠ []) : (sortD zs).getD 0 0 = maxL zs := by
  have hl := sortD_len zs
  have hp : 0 < zs.length := List.length_pos_iff.2 h
  have hs := List.pairwise_iff_getElem.1 (sortD_sorted zs)
  obtain ⟨h1, h2⟩ := maxL_spec zs h
  have hm : (sortD zs)[0]'(by omega) ∈ zs := (sortD_perm zs).mem_iff.1 (List.getElem_mem _)
  obtain ⟨i, hi, he⟩ := List.getElem_of_mem ((sortD_perm zs).mem_iff.2 h1)
  have h3 : maxL zs ≤ (sortD zs)[0]'(by omega) := by
    rw [← he]
    by_cases h0 : i = 0
    · subst h0; exact Int.le_refl _
    · exact hs 0 i (by omega) hi (by omega)
  have h4 := h2 _ hm
  simp [List.getElem?_eq_getElem (show 0 < (sortD zs).length by omega)]
  omega
theorem sortD_last (zs : List Int) (h : zs ≠ []) : (sortD zs).getD (zs.length - 1) 0 = minL zs := by
  have hl := sortD_len zs
  have hp : 0 < zs.length := List.length_pos_iff.2 h
  have hs := List.pairwise_iff_getElem.1 (sortD_sorted zs)
  obtain ⟨h1, h2⟩ := minL_spec zs h
  have hm : (sortD zs)[zs.length - 1]'(by omega) ∈ zs := (sortD_perm zs).mem_iff.1 (List.getElem_mem _)
  obtain ⟨i, hi, he⟩ := List.getElem_of_mem ((sortD_perm zs).mem_iff.2 h1)
  have h3 : (sortD zs)[zs.length - 1]'(by omega) ≤ minL zs := by
    rw [← he]
    by_cases h0 : i = zs.length - 1
    · subst h0; exact Int.le_refl _
    · exact hs i (zs.length - 1) hi (by omega) (by omega)
  have h4 := h2 _ hm
  simp [List.getElem?_eq_getElem (show zs.length - 1 < (sortD zs).length by omega)]
  omega

/-! ### Fractions -/
def gcdI (a b : Int) : Nat := Nat.gcd a.natAbs b.natAbs
/-- In lowest terms, for b > 0. -/
def lowF (a b : Int) : Int × Int := (a.tdiv (gcdI a b), b / (gcdI a b))
/-- A quotient rounded by a mode. -/
def modeF (a b mode : Int) : Int := if mode = -1 then a / b else if mode = 0 then (2 * a + b) / (2 * b) else -((-a) / b)

/-! ### Trimmed sums -/
def trimF (zs : List Int) : Int × Int := if zs.length < 5 then (zs.sum, zs.length) else (zs.sum - maxL zs - minL zs, (zs.length : Int) - 2)
end Go.Proofs.YtnokilofcdbjhaaGreatDoor

namespace Go.Proofs.YtnokilofcdbjhaaGreatDoor
open Go.RowKit

end Go.Proofs.YtnokilofcdbjhaaGreatDoor

namespace Go.Proofs.YtnokilofcdbjhaaGreatDoor
open Go.RowKit

/-- A cut of a slice that is read. -/
theorem Sl.cutTo {w : World} {B n k : Nat} {A : Option Addr} {vs : List Value} (h : Sl w B A n vs) (hk : k ≤ n) : Sl w B A k (vs.take k) := by
  refine ⟨by simp [h.1]; omega, fun h0 => ?_⟩
  obtain ⟨b, off, e, hb, hc⟩ := h.2 (by omega)
  refine ⟨b, off, e, hb, fun i u hu => hc i u ?_⟩
  rw [List.getElem?_take] at hu
  split at hu
  · exact hu
  · cases hu
theorem SlI.cutTo {w : World} {B n k : Nat} {A : Option Addr} {zs : List Int} (h : SlI w B A n zs) (hk : k ≤ n) : SlI w B A k (zs.take k) := by
  unfold SlI; rw [List.map_take]; exact Sl.cutTo h hk
theorem Sl.cutFrom {w : World} {B n k b off : Nat} {X : Option Addr} {vs : List Value} (h : Sl w B (some ⟨b, off, none⟩) n vs) (hk : k ≤ n) (hX : k < n → X = some ⟨b, off + k, none⟩) : Sl w B X (n - k) (vs.drop k) := by
  refine ⟨by simp [h.1], fun h0 => ?_⟩
  obtain ⟨b', off', e, hb, hc⟩ := h.2 (by omega)
  simp only [Option.some.injEq, Addr.mk.injEq, and_true] at e
  obtain ⟨rfl, rfl⟩ := e
  refine ⟨b, off + k, hX (by omega), hb, fun i u hu => ?_⟩
  rw [List.getElem?_drop] at hu
  rw [Nat.add_assoc]
  exact hc _ u hu
theorem SlI.cutFrom {w : World} {B n k b off : Nat} {X : Option Addr} {zs : List Int} (h : SlI w B (some ⟨b, off, none⟩) n zs) (hk : k ≤ n) (hX : k < n → X = some ⟨b, off + k, none⟩) : SlI w B X (n - k) (zs.drop k) := by
  unfold SlI; rw [List.map_drop]; exact Sl.cutFrom h hk hX

end Go.Proofs.YtnokilofcdbjhaaGreatDoor

namespace Go.Proofs.YtnokilofcdbjhaaGreatDoor
open Go.RowKit

theorem one_int (x : Int) : ∀ u ∈ [Value.int .i64 x], u.oneCell' = true := by simp [Value.oneCell']

end Go.Proofs.YtnokilofcdbjhaaGreatDoor

namespace Go.Proofs.YtnokilofcdbjhaaGreatDoor
open Go.RowKit

theorem drop_rev (l : List Int) (m : Nat) (h : m < l.length) : (l.drop (m + 1)).reverse ++ [l.getD m 0] = (l.drop m).reverse := by
  rw [List.drop_eq_getElem_cons h, List.reverse_cons]
  simp [h]

/-! ### Fractions -/
theorem gcd_step (X Y : Nat) : Nat.gcd Y (X % Y) = Nat.gcd X Y := by rw [Nat.gcd_comm X Y, Nat.gcd_rec Y X, Nat.gcd_comm]

theorem tmod_nat (X Y : Nat) : (X : Int).tmod (Y : Int) = ((X % Y : Nat) : Int) := rfl

def mostF (a b : Int) : Int := if b < a then a else b
theorem s.l1Most_any (a b : Int) (w : World) : Calls Tryz.prog 69 #[.int .i64 a, .int .i64 b] w fun e w' => e = .returned (.int .i64 (max a b)) ∧ w = w' := by
  go_enter Tryz.func69, Tryz.ntmps69
  go_wp2
  all_goals go_ret
  · exact ⟨ret_int (by omega), rfl⟩
  · exact ⟨ret_int (by omega), rfl⟩
end Go.Proofs.YtnokilofcdbjhaaGreatDoor

namespace Go.Proofs.YtnokilofcdbjhaaGreatDoor
open Go.RowKit
set_option linter.unusedVariables false

theorem gcdI_pos (a b : Int) (hb : 0 < b) : 0 < gcdI a b := Nat.gcd_pos_of_pos_right _ (by omega)
theorem gcdI_le (a b : Int) (hb : 0 < b) : (gcdI a b : Int) ≤ b := by
  have : gcdI a b ≤ b.natAbs := Nat.le_of_dvd (by omega) (Nat.gcd_dvd_right _ _)
  omega
theorem lowF_eq (a b : Int) : lowF a b = (a.tdiv (gcdI a b), b / (gcdI a b)) := rfl

/-! ### Quotients rounded -/
theorem floor_fix (a b : Int) (hb : 0 < b) : (if a.tmod b < 0 then a.tdiv b - 1 else a.tdiv b) = a / b := by
  have h1 : a.tdiv b * b + a.tmod b = a := by rw [Int.mul_comm]; exact Int.mul_tdiv_add_tmod a b
  have h2 := Int.tmod_lt_of_pos a hb
  have h3 : -b < a.tmod b := by
    rcases Int.le_total 0 a with h | h
    · have := Int.tmod_nonneg b h; omega
    · have := Int.tmod_lt_of_pos (-a) hb
      rw [Int.neg_tmod] at this
      omega
  split
  · symm
    apply Int.le_antisymm
    · have : a / b < a.tdiv b := Int.ediv_lt_of_lt_mul hb (by omega)
      omega
    · apply Int.le_ediv_of_mul_le hb
      rw [Int.sub_mul]
      omega
  · symm
    apply Int.le_antisymm
    · have : a / b < a.tdiv b + 1 := Int.ediv_lt_of_lt_mul hb (by rw [Int.add_mul]; omega)
      omega
    · apply Int.le_ediv_of_mul_le hb
      omega
theorem tdiv_bd (a b : Int) (hb : 0 < b) (ha : -4611686018427387904 ≤ a) (ha' : a ≤ 4611686018427387904) : -4611686018427387904 ≤ a.tdiv b ∧ a.tdiv b ≤ 4611686018427387904 := by
  have h := Int.natAbs_tdiv_le_natAbs a b
  omega
theorem ediv_bd (a b : Int) (hb : 0 < b) (ha : -2305843009213693952 ≤ a) (ha' : a ≤ 2305843009213693952) : -2305843009213693953 ≤ a / b ∧ a / b ≤ 2305843009213693953 := by
  have h := floor_fix a b hb
  have h2 := Int.natAbs_tdiv_le_natAbs a b
  split at h <;> omega

def isMode (m : Int) : Bool := inB (-1) 1 m
end Go.Proofs.YtnokilofcdbjhaaGreatDoor

namespace Go.Proofs.YtnokilofcdbjhaaGreatDoor
open Go.RowKit
set_option linter.unusedVariables false

/-- Numbers that are added up without harm. -/
theorem good_small {zs : List Int} (h : zs.all (inB (-1000) 1000) = true) : ∀ z ∈ zs, -1000 ≤ z ∧ z ≤ 1000 := by
  intro z hz
  have := List.all_eq_true.1 h z hz
  simpa [inB] using this
theorem maxL_small {zs : List Int} (h : Small zs) : -1000000000 ≤ maxL zs ∧ maxL zs ≤ 1000000000 := by
  cases zs with
  | nil => simp [maxL]
  | cons x t => exact h _ (maxL_spec (x :: t) (by simp)).1
theorem minL_small {zs : List Int} (h : Small zs) : -1000000000 ≤ minL zs ∧ minL zs ≤ 1000000000 := by
  cases zs with
  | nil => simp [minL]
  | cons x t => exact h _ (minL_spec (x :: t) (by simp)).1

end Go.Proofs.YtnokilofcdbjhaaGreatDoor

namespace Go.Proofs.YtnokilofcdbjhaaGreatDoor
open Go.RowKit
set_option linter.unusedVariables false

theorem good_ok {zs : List Int} (h : goodMarks zs = true) : 1 ≤ zs.length ∧ zs.length ≤ 9 ∧ (∀ z ∈ zs, -1000 ≤ z ∧ z ≤ 1000) ∧ Small zs := by
  simp only [goodMarks, inB, Bool.and_eq_true, decide_eq_true_eq] at h
  obtain ⟨⟨h1, h2⟩, h3⟩ := h
  have h4 := good_small (zs := zs) (by simpa [inB] using h3)
  exact ⟨by omega, by omega, h4, fun z hz => by have := h4 z hz; omega⟩
theorem sum_bd (zs : List Int) (h : ∀ z ∈ zs, -1000 ≤ z ∧ z ≤ 1000) : -(1000 * (zs.length : Int)) ≤ zs.sum ∧ zs.sum ≤ 1000 * (zs.length : Int) := by
  induction zs with
  | nil => simp
  | cons x a ih =>
    have h1 := h x (by simp)
    have h2 := ih (fun z hz => h z (by simp [hz]))
    simp only [List.sum_cons, List.length_cons]
    omega
theorem trim_bd {zs : List Int} (h : goodMarks zs = true) : -100000 ≤ (trimF zs).1 ∧ (trimF zs).1 ≤ 100000 ∧ 1 ≤ (trimF zs).2 ∧ (trimF zs).2 ≤ 9 := by
  obtain ⟨h1, h2, h3, h4⟩ := good_ok h
  obtain ⟨s1, s2⟩ := sum_bd zs h3
  have hne : zs ≠ [] := by rintro rfl; simp at h1
  have m1 := h3 _ (maxL_spec zs hne).1
  have m2 := h3 _ (minL_spec zs hne).1
  unfold trimF
  split <;> simp only <;> omega

def trimmedSumF (zs : List Int) : Int × Int × Bool := if goodMarks zs then ((trimF zs).1, (trimF zs).2, true) else (0, 0, false)
def trimmedMeanF (zs : List Int) : Int × Int × Bool := if goodMarks zs then ((lowF (trimF zs).1 (trimF zs).2).1, (lowF (trimF zs).1 (trimF zs).2).2, true) else (0, 0, false)
def trimmedPointsF (zs : List Int) (f p m : Int) : Int × Bool := if goodMarks zs && inB 0 10000 f && inB 1 1000 p && inB (-1) 1 m then (modeF ((trimF zs).1 * f) ((trimF zs).2 * p) m, true) else (0, false)

end Go.Proofs.YtnokilofcdbjhaaGreatDoor

namespace Go.Proofs.YtnokilofcdbjhaaGreatDoor
open Go.RowKit
set_option linter.unusedVariables false

section
variable {P : Program} {t ty e : TypeId} {bytes : Nat} {w : World} {lo n c B m d g : Nat} {X : Option Addr} {vs news : List Value}
/-- 'append(own, src...)' within the capacity: in place. -/
theorem run_append_in (E : Elem P t e bytes) (h : Own e w lo (some ⟨g, 0, none⟩) n c vs) (hs : Sl w B X m news) (h1 : ∀ u ∈ news, u.oneCell' = true) (hX : ∃ ad, X = some ad) (hroom : n + m ≤ c) :
    ∃ w', (Builtin.append_ #[t, t] ty #[.slice (some ⟨g, 0, none⟩) n c, .slice X m d]).run P w = .ok (.slice (some ⟨g, 0, none⟩) (n + m) c) w' ∧ Own e w' lo (some ⟨g, 0, none⟩) (n + m) c (vs ++ news) ∧ w.grownBy w' (some g) := by
  obtain ⟨ad, rfl⟩ := hX
  obtain ⟨ht, i, z, hi, hz, hz1, hz2, hz3⟩ := E
  refine run_append_fits (P := P) w lo t ty e i 1 ht hi hz1 g n c vs h ad m d news (by rw [hs.1]; omega) ?_ h1 hroom
  intro j u hu
  rcases Nat.eq_zero_or_pos m with h0 | h0
  · have : news = [] := List.eq_nil_of_length_eq_zero (by rw [hs.1, h0])
    subst this
    simp at hu
  · obtain ⟨b, off, h, _, hc⟩ := hs.2 h0
    injection h with h
    subst h
    rw [add_none]
    exact hc j u hu
theorem step_append_in {ops : Array Oper} {o : Oper} {a : Act} {K : Act → World → Prop} {Q : Exit → Act → World → Prop} {G : Prop} (hgd : o.guard = none) (s x : Operand)
    (ho : o.op = .call { callee := .builtin .append, args := #[s, x], argTypes := #[t, t] }) (E : Elem P t e bytes)
    (hs' : a.eval s = .slice (some ⟨g, 0, none⟩) n c) (hx' : a.eval x = .slice X m d) (h : Own e w lo (some ⟨g, 0, none⟩) n c vs) (hs : Sl w B X m news) (h1 : ∀ u ∈ news, u.oneCell' = true) (hX : ∃ ad, X = some ad) (hroom : n + m ≤ c)
    (hK : ∀ w', Own e w' lo (some ⟨g, 0, none⟩) (n + m) c (vs ++ news) → w.grownBy w' (some g) → K (a.put o.dst (.slice (some ⟨g, 0, none⟩) (n + m) c)) w') :
    if Region.wanted o (yielded ops a.tmps) = true then Oper.wp P o a w K Q else G := by
  have hw : Region.wanted o (yielded ops a.tmps) = true := by simp [Region.wanted, hgd]
  rw [if_pos hw]
  obtain ⟨w', hrun, h2, h3⟩ := run_append_in (ty := o.type) (d := d) E h hs h1 hX hroom
  unfold Oper.wp execOp
  simp only [ho, resolve, invoke, builtin, Sem.run_bind, Sem.run_pure, Result.andThen_ok, List.map_toArray, List.map_cons, List.map_nil, hs', hx', hrun]
  exact hK w' h2 h3
/-- A shorter look at the row. -/
theorem Own.cutTo {k : Nat} (h : Own e w lo (some ⟨g, 0, none⟩) n c vs) (hk : k ≤ n) : Own e w lo (some ⟨g, 0, none⟩) k c (vs.take k) := by
  refine ⟨by simp [h.len]; omega, ?_⟩
  rcases h.2 with ⟨hh, _⟩ | ⟨g', cap, cur, hh, h1, h2, h3, h4, h5, h6⟩
  · simp at hh
  · simp only [Value.slice.injEq, Option.some.injEq, Addr.mk.injEq, and_true, true_and] at hh
    obtain ⟨rfl, rfl⟩ := hh
    refine .inr ⟨g, c, cur, rfl, h1, h2, by omega, h4, h5, ?_⟩
    rw [← h6, List.take_take]
    congr 1
    omega
/-- The row has cells up to its capacity. -/
theorem Own.spare (h : Own e w lo (some ⟨g, 0, none⟩) n c vs) (j : Nat) (hj : j < c) : (w.cell? ⟨g, j, none⟩).isSome = true := by
  rcases h.2 with ⟨hh, _⟩ | ⟨g', cap, cur, hh, h1, h2, h3, h4, h5, h6⟩
  · simp at hh
  · simp only [Value.slice.injEq, Option.some.injEq, Addr.mk.injEq, and_true, true_and] at hh
    obtain ⟨rfl, rfl⟩ := hh
    rw [cell_of_row w g j cur e (0, 0) h2]
    simp
    omega
theorem Own.setOut (h : Own e w lo (some ⟨g, 0, none⟩) n c vs) (j : Nat) (hj : n ≤ j) (u : Value) : Own e (w.setCell ⟨g, j, none⟩ u) lo (some ⟨g, 0, none⟩) n c vs := by
  have := h.set j u
  rwa [List.set_eq_of_length_le (by rw [h.len]; exact hj)] at this
end

theorem zero_int (w : World) : (zeroValue 3).run Tryz.prog w = .ok (.int .i64 0) w := by kernel_rfl

set_option maxHeartbeats 1000000 in
theorem slicesDelete_any (g n c lo k : Nat) (zs : List Int) (w : World) (h : OwnI 3 w lo (some ⟨g, 0, none⟩) n c zs) (hn : n ≤ 1048576) (hk : k < n) :
    Calls Tryz.prog 54 #[.slice (some ⟨g, 0, none⟩) n c, .int .i64 k, .int .i64 ((k : Int) + 1)] w fun e w' =>
      e = .returned (.slice (some ⟨g, 0, none⟩) (n - 1) c) ∧ OwnI 3 w' lo (some ⟨g, 0, none⟩) (n - 1) c (zs.take k ++ zs.drop (k + 1)) ∧ w.grownBy w' (some g) := by
  have HL := hide h.len
  have hcn := h.capn
  have hcm := h.capm
  have HO := hide h
  clear h
  have SD : Hid (Sl w.drew w.heap.size (if c = k + 1 then some ⟨g, 0, none⟩ else some ⟨g, k + 1, none⟩) (n - (k + 1)) ((zs.drop (k + 1)).map (Value.int .i64))) := by
    show Sl _ _ _ _ _
    rw [List.map_drop]
    exact (Sl.cutFrom HO.out.sl (by omega) (fun h => by rw [if_neg (by omega), Nat.zero_add])).drew
  have SX : Hid (∃ ad : Addr, (if c = k + 1 then some (⟨g, 0, none⟩ : Addr) else some ⟨g, k + 1, none⟩) = some ad) := by
    show ∃ _, _
    split <;> exact ⟨_, rfl⟩
  have OK : Hid (Own 3 w.drew lo (some ⟨g, 0, none⟩) k c ((zs.map (Value.int .i64)).take k)) := (Own.cutTo HO.out (by omega)).drew
  have j0 : (0 : Int) ≤ (k : Int) + 1 := by omega
  have j1 : (k : Int) + 1 ≤ n := by omega
  have j2 : (k : Int) + 1 ≤ c := by omega
  have j3 : (k : Int) ≤ c := by omega
  have j4 : ((k : Int) == (k : Int) + 1) = false := by simp; omega
  have j5 : ((k : Int) + 1).toNat = k + 1 := by omega
  have j6 : (n : Int) ≤ c := by omega
  go_enter Tryz.func54, Tryz.ntmps54
  go_wp2
  go_region_law ((refine step_append_in (by rfl) (.tmp 22) (.tmp 25) (by rfl) elem_int (by rfl) (by rfl) OK.out SD.out (oneCell_ints _) SX.out (by omega) ?_; intro w1 ho1 hg1))
  rw [show k + (n - (k + 1)) = n - 1 by omega] at ho1
  rw [show k + (n - (k + 1)) = n - 1 by omega]
  clear OK SD SX j4 j5
  have hc1 : ¬ c = n - 1 := by omega
  have j7 : ((n - 1 : Nat) : Int) ≤ n := by omega
  have hz := zero_int
  have hcl : ∀ ty, (Builtin.clear_ #[31] ty #[.slice (some ⟨g, n - 1, none⟩) (n - (n - 1)) (c - (n - 1))]).run Tryz.prog w1 = .ok (.tuple #[]) (w1.setCells g (n - 1) (List.replicate (n - (n - 1)) (.int .i64 0))) :=
    fun ty => Lib.run_clear_slice w1 _ _ ty _ Tryz.underlying31 zero_int rfl rfl g (n - 1) _ _ (by omega) (fun j hj => ho1.spare _ (by omega)) (fun j hj => ho1.free _)
  have HO1 := hide ho1
  have HG1 := hide hg1
  clear ho1 hg1
  have e1 : List.replicate (n - (n - 1)) (Value.int .i64 0) = [Value.int .i64 0] := by rw [show n - (n - 1) = 1 by omega]; rfl
  have HE := hide e1
  clear e1
  by_cases hcc : c = k + 1
  case' pos => subst hcc
  all_goals
    go_wp2
    go_ret
    rw [HE.out]
    refine ⟨rfl, own_conv (zs := zs.take k ++ zs.drop (k + 1)) (Own.setOut HO1.out (n - 1) (Nat.le_refl _) (.int .i64 0)) (Nat.le_refl _) rfl (by simp [List.map_take]), ?_⟩
    have hg : w.grownBy w1 (some g) := ⟨HG1.out.os, HG1.out.tape, HG1.out.output, HG1.out.size, HG1.out.block⟩
    exact hg.step_set (p := ⟨g, n - 1, none⟩) rfl _

/-- The result of WithoutMark. -/
def withoutMarkF (zs : List Int) (k : Int) : List Int × Bool := if hasMark zs k && !(zs.length == 1) then (zs.take k.toNat ++ zs.drop (k.toNat + 1), true) else ([], false)
theorem withoutMarkF_ok (zs : List Int) (k : Int) (h : kI.ok zs) : kI.ok (withoutMarkF zs k).1 := by
  show (withoutMarkF zs k).1.length ≤ 1048576
  have : zs.length ≤ 1048576 := h
  unfold withoutMarkF
  split
  · simp; omega
  · simp

end Go.Proofs.YtnokilofcdbjhaaGreatDoor

namespace Go.Proofs.YtnokilofcdbjhaaGreatDoor
open Go.RowKit
set_option linter.unusedVariables false

theorem quiet_of_l {P : Program} {f : FuncId} {args : Array Value} {w : World} {n : Nat} {v : Value}
    (h : Calls P f args (w.drewN n) fun e w' => e = .returned v ∧ w.drewN n = w') : Calls P f args (w.drewN n) fun e w'' => e = .returned v ∧ ∃ m, w'' = w.drewN m :=
  h.mono fun _ _ ⟨he, hm⟩ => ⟨he, n, hm.symm⟩

/-- The result of IsTrimmed. -/
def isTrimmedF (zs : List Int) (k : Int) : Bool × Bool := if hasMark zs k then (decide (5 ≤ zs.length) && (zs.getD k.toNat 0 == maxL zs || zs.getD k.toNat 0 == minL zs), true) else (false, false)

theorem getD_rev_zero (l : List Int) (h : 0 < l.length) : l.reverse.getD 0 0 = l.getD (l.length - 1) 0 := by
  simp [List.getElem?_reverse h]
theorem getD_rev_last (l : List Int) (h : 0 < l.length) : l.reverse.getD (l.length - 1) 0 = l.getD 0 0 := by
  rw [List.getD_eq_getElem?_getD, List.getElem?_reverse (by omega)]
  simp

end Go.Proofs.YtnokilofcdbjhaaGreatDoor
