/- Words for memory, of no program: a slice value that reads as a list of one-cell elements. -/
import Derived.WalkKit
import Derived.WalkSpells
import Derived.WalkLawsBesides
import Derived.Maps.AppendAt
import Derived.OwnWalk
namespace Go.Proofs.Ytmckompikbechaa
open Go.RowKit

theorem hide {p : Prop} (h : p) : Hid p := h

/-- The slice with address A and length n reads as the cells vs, in a block below B. -/
def Sl (w : World) (B : Nat) (A : Option Addr) (n : Nat) (vs : List Value) : Prop :=
  vs.length = n ∧ (0 < n → ∃ b off, A = some ⟨b, off, none⟩ ∧ b < B ∧ ∀ k u, vs[k]? = some u → w.cell? ⟨b, off + k, none⟩ = some u)

/-- The same for numbers. -/
def SlI (w : World) (B : Nat) (A : Option Addr) (n : Nat) (zs : List Int) : Prop := Sl w B A n (zs.map (Value.int .i64))

theorem add_none (b off k : Nat) : (⟨b, off, none⟩ : Addr).add k = ⟨b, off + k, none⟩ := by
  unfold Addr.add
  split
  · subst_vars; rfl
  · rfl

section
variable {w w' : World} {B B' n : Nat} {A : Option Addr} {vs : List Value} {zs : List Int}

theorem Sl.keep (h : Sl w B A n vs) (hk : ∀ p : Addr, p.block < B → w'.cell? p = w.cell? p) : Sl w' B A n vs :=
  ⟨h.1, fun hn => by
    obtain ⟨b, off, e, hb, hc⟩ := h.2 hn
    exact ⟨b, off, e, hb, fun k u hu => (hk _ hb).trans (hc k u hu)⟩⟩
theorem Sl.more (h : Sl w B A n vs) (hB : B ≤ B') : Sl w B' A n vs :=
  ⟨h.1, fun hn => by
    obtain ⟨b, off, e, hb, hc⟩ := h.2 hn
    exact ⟨b, off, e, by omega, hc⟩⟩
theorem Sl.below (h : Sl w B A n vs) (hb : Below B w w') : Sl w' B A n vs := h.keep fun _ hp => hb.cell hp
theorem Sl.nil : Sl w B A 0 [] := ⟨rfl, fun h => absurd h (by omega)⟩

theorem SlI.len (h : SlI w B A n zs) : zs.length = n := by simpa using h.1
theorem SlI.below (h : SlI w B A n zs) (hb : Below B w w') : SlI w' B A n zs := Sl.below h hb
theorem SlI.more (h : SlI w B A n zs) (hB : B ≤ B') : SlI w B' A n zs := Sl.more h hB
theorem SlI.keep (h : SlI w B A n zs) (hk : ∀ p : Addr, p.block < B → w'.cell? p = w.cell? p) : SlI w' B A n zs := Sl.keep h hk
theorem SlI.cells (h : SlI w B A n zs) (hn : 0 < n) : ∃ b off, A = some ⟨b, off, none⟩ ∧ b < B ∧ ∀ k, k < n → w.cell? ⟨b, off + k, none⟩ = some (.int .i64 (zs.getD k 0)) := by
  obtain ⟨b, off, e, hb, hc⟩ := h.2 hn
  refine ⟨b, off, e, hb, fun k hk => hc k _ ?_⟩
  have hl := h.len
  simp [List.getElem?_eq_getElem (show k < zs.length by omega)]
end

section
variable {zs : List Int}
theorem take_succ_getD (k : Nat) (h : k < zs.length) : zs.take (k + 1) = zs.take k ++ [zs.getD k 0] := by
  rw [List.take_succ_eq_append_getElem h]
  simp [h]
end

/-- The call's own row: the slice value begins at the head of a row of element type e, in a block from lo on, not frozen, and its elements are vs. -/
def Own (e : TypeId) (w : World) (lo : Nat) (A : Option Addr) (n c : Nat) (vs : List Value) : Prop := w.ownsRow lo e 1 (.slice A n c) n vs
def OwnI (e : TypeId) (w : World) (lo : Nat) (A : Option Addr) (n c : Nat) (zs : List Int) : Prop := Own e w lo A n c (zs.map (Value.int .i64))

section
variable {e : TypeId} {w w' : World} {lo lo' n c : Nat} {A : Option Addr} {vs : List Value} {zs : List Int}

theorem Own.len (h : Own e w lo A n c vs) : vs.length = n := by have := h.1; omega
theorem Own.form (h : Own e w lo A n c vs) : (A = none ∧ n = 0 ∧ c = 0) ∨ ∃ g, A = some ⟨g, 0, none⟩ ∧ lo ≤ g ∧ g < w.heap.size ∧ n ≤ c := by
  rcases h.2 with ⟨h, h'⟩ | ⟨g, cap, cur, h, h1, h2, h3, _⟩
  · simp only [Value.slice.injEq] at h
    exact .inl ⟨h.1, h', h.2.2⟩
  · simp only [Value.slice.injEq] at h
    obtain ⟨rfl, _, rfl⟩ := h
    refine .inr ⟨g, rfl, h1, ?_, h3⟩
    rcases Nat.lt_or_ge g w.heap.size with hlt | hge
    · exact hlt
    · rw [Array.getElem?_eq_none hge] at h2; cases h2
theorem Own.pos (h : Own e w lo A n c vs) (hn : 0 < n) : ∃ g, A = some ⟨g, 0, none⟩ ∧ lo ≤ g ∧ g < w.heap.size ∧ n ≤ c := by
  rcases h.form with ⟨_, h, _⟩ | h
  · omega
  · exact h
theorem Own.sl (h : Own e w lo A n c vs) : Sl w w.heap.size A n vs := by
  refine ⟨h.len, fun hn => ?_⟩
  obtain ⟨g, rfl, h1, h2, h3⟩ := h.pos hn
  refine ⟨g, 0, rfl, h2, fun k u hu => ?_⟩
  have := World.ownsRow.cellAt h k (by have := h.len; have := (List.getElem?_eq_some_iff.1 hu).1; omega)
  rw [Nat.zero_add, this, hu]
theorem Own.capn (h : Own e w lo A n c vs) : n ≤ c := by
  rcases h.form with ⟨_, h, _⟩ | ⟨_, _, _, _, h⟩ <;> omega
theorem Own.capm (h : Own e w lo A n c vs) : c ≤ 9223372036854775807 := by
  rcases h.2 with ⟨h, h'⟩ | ⟨g, cap, cur, h, h1, h2, h3, h4, _⟩
  · simp only [Value.slice.injEq] at h
    omega
  · simp only [Value.slice.injEq] at h
    have : cap = c := h.2.2.symm
    unfold maxLen at h4
    omega
theorem Own.lower (h : Own e w lo A n c vs) (hl : lo' ≤ lo) : Own e w lo' A n c vs := by
  refine ⟨h.1, ?_⟩
  rcases h.2 with h | ⟨g, cap, cur, h, h1, r⟩
  · exact .inl h
  · exact .inr ⟨g, cap, cur, h, by omega, r⟩
theorem Own.below {B : Nat} (h : Own e w lo A n c vs) (hb : Below B w w') (hB : w.heap.size ≤ B) : Own e w' lo A n c vs := by
  have hf := h.form
  refine ⟨h.1, ?_⟩
  rcases h.2 with h | ⟨g, cap, cur, h, h1, h2, r⟩
  · exact .inl h
  · refine .inr ⟨g, cap, cur, h, h1, ?_, r⟩
    rw [hb.block g, h2]
    rcases hf with ⟨hA, _⟩ | ⟨g', hA, _, hlt, _⟩
    · subst hA; simp at h
    · simp only [Value.slice.injEq] at h
      rw [hA] at h
      have : g' = g := by simpa using h.1
      omega
/-- A store into the row. -/
theorem Own.set {g : Nat} (h : Own e w lo (some ⟨g, 0, none⟩) n c vs) (j : Nat) (u : Value) :
    Own e (w.setCell ⟨g, j, none⟩ u) lo (some ⟨g, 0, none⟩) n c (vs.set j u) := (World.ownsRow.stored h j u).1
theorem Own.cell {g : Nat} (h : Own e w lo (some ⟨g, 0, none⟩) n c vs) (j : Nat) (hj : j < n) : w.cell? ⟨g, j, none⟩ = vs[j]? := World.ownsRow.cellAt h j (by omega)
theorem Own.free {g : Nat} (h : Own e w lo (some ⟨g, 0, none⟩) n c vs) (j : Nat) : w.frozen? ⟨g, j, none⟩ = false := World.ownsRow.frozenAt h j
/-- A store into a block other than the row's. -/
theorem Own.far {p : Addr} (h : Own e w lo A n c vs) (hp : ∀ a, A = some a → a.block ≠ p.block) (u : Value) : Own e (w.setCell p u) lo A n c vs := by
  refine ⟨h.1, ?_⟩
  rcases h.2 with h | ⟨g, cap, cur, h, h1, h2, r⟩
  · exact .inl h
  · refine .inr ⟨g, cap, cur, h, h1, ?_, r⟩
    simp only [Value.slice.injEq] at h
    rw [Below.heap_setCell _ _ _ _ (hp _ h.1), h2]

theorem OwnI.len (h : OwnI e w lo A n c zs) : zs.length = n := by simpa using Own.len h
theorem OwnI.form (h : OwnI e w lo A n c zs) : (A = none ∧ n = 0 ∧ c = 0) ∨ ∃ g, A = some ⟨g, 0, none⟩ ∧ lo ≤ g ∧ g < w.heap.size ∧ n ≤ c := Own.form h
theorem OwnI.pos (h : OwnI e w lo A n c zs) (hn : 0 < n) : ∃ g, A = some ⟨g, 0, none⟩ ∧ lo ≤ g ∧ g < w.heap.size ∧ n ≤ c := Own.pos h hn
theorem OwnI.sl (h : OwnI e w lo A n c zs) : SlI w w.heap.size A n zs := Own.sl h
theorem OwnI.capn (h : OwnI e w lo A n c zs) : n ≤ c := Own.capn h
theorem OwnI.capm (h : OwnI e w lo A n c zs) : c ≤ 9223372036854775807 := Own.capm h
theorem OwnI.lower (h : OwnI e w lo A n c zs) (hl : lo' ≤ lo) : OwnI e w lo' A n c zs := Own.lower h hl
theorem OwnI.below {B : Nat} (h : OwnI e w lo A n c zs) (hb : Below B w w') (hB : w.heap.size ≤ B) : OwnI e w' lo A n c zs := Own.below h hb hB
theorem OwnI.set {g : Nat} (h : OwnI e w lo (some ⟨g, 0, none⟩) n c zs) (j : Nat) (z : Int) :
    OwnI e (w.setCell ⟨g, j, none⟩ (.int .i64 z)) lo (some ⟨g, 0, none⟩) n c (zs.set j z) := by
  have := Own.set h j (.int .i64 z)
  unfold OwnI
  rw [List.map_set]
  exact this
theorem OwnI.cell {g : Nat} (h : OwnI e w lo (some ⟨g, 0, none⟩) n c zs) (j : Nat) (hj : j < n) : w.cell? ⟨g, j, none⟩ = some (.int .i64 (zs.getD j 0)) := by
  rw [Own.cell h j hj]
  have hl := h.len
  simp [List.getElem?_eq_getElem (show j < zs.length by omega)]
theorem OwnI.free {g : Nat} (h : OwnI e w lo (some ⟨g, 0, none⟩) n c zs) (j : Nat) : w.frozen? ⟨g, j, none⟩ = false := Own.free h j
theorem OwnI.nil : OwnI e w lo none 0 0 [] := ⟨by simp, .inl ⟨rfl, rfl⟩⟩
end


/-- What the tables say of a slice type t with elements of type e, one cell each. -/
def Elem (P : Program) (t e : TypeId) (bytes : Nat) : Prop :=
  P.underlying t = some (.slice e) ∧ ∃ i z, P.info? e = some i ∧ i.zero = some z ∧ i.size = 1 ∧ i.bytes = bytes ∧ z.cells.size = 1

theorem Elem.mk {P : Program} {t e : TypeId} {z : Value} {bytes : Nat} (h : P.underlying t = some (.slice e)) (h' : (P.info? e).map (fun i => (i.zero, i.size, i.bytes)) = some (some z, 1, bytes)) (hz : z.cells.size = 1) : Elem P t e bytes := by
  obtain ⟨i, hi, h0, h1, h2⟩ := info_parts h'
  exact ⟨h, i, z, hi, h0, h1, h2, hz⟩

section
variable {P : Program} {t ty e : TypeId} {bytes : Nat} {w : World} {lo n c B m d : Nat} {A X : Option Addr} {vs news : List Value}

/-- What an append onto the call's own row leaves. -/
structure Apd (e : TypeId) (w : World) (lo : Nat) (A : Option Addr) (w' : World) (A' : Option Addr) (n' c' : Nat) (vs' : List Value) : Prop where
  own : Own e w' lo A' n' c' vs'
  grew : w.grownBy w' (A.map (·.block))
  where_ : A'.map (·.block) = A.map (·.block) ∨ A'.map (·.block) = some w.heap.size

theorem run_append_nothing (E : Elem P t e bytes) (h : Own e w lo A n c vs) : (Builtin.append_ #[t, t] ty #[.slice A n c, .slice none 0 d]).run P w = .ok (.slice A n c) w := by
  obtain ⟨ht, i, z, hi, _⟩ := E
  rcases h.form with ⟨rfl, rfl, rfl⟩ | ⟨g, rfl, _, _, hnc⟩
  · simp [Builtin.append_, run_underlying ht, sizeOf, typeInfo, hi, Builtin.lenOf, Builtin.firstCells]
  · simp [Builtin.append_, run_underlying ht, sizeOf, typeInfo, hi, Builtin.lenOf, Builtin.firstCells, hnc, storeCells]

/-- 'append(own, src...)': the source is read wherever it lies. -/
theorem run_append_sl (E : Elem P t e bytes) (h : Own e w lo A n c vs) (hs : Sl w B X m news) (h1 : ∀ u ∈ news, u.oneCell' = true) (hb : (n + m) * bytes ≤ 140737488355328) (hm : n + m ≤ 4611686018427387904) (hlo : lo ≤ w.heap.size) :
    ∃ A' c' w', (Builtin.append_ #[t, t] ty #[.slice A n c, .slice X m d]).run P w = .ok (.slice A' (n + m) c') w' ∧ Own e w' lo A' (n + m) c' (vs ++ news) ∧ w.grownBy w' (A.map (·.block)) ∧
      (A'.map (·.block) = A.map (·.block) ∨ A'.map (·.block) = some w.heap.size) := by
  have hob : ∀ (A : Option Addr) (n c : Nat), (Value.slice A n c).ownBlock = A.map (·.block) := fun A n c => by cases A <;> rfl
  rcases X with _ | ad
  · have hm0 : m = 0 := by
      rcases Nat.eq_zero_or_pos m with h0 | h0
      · exact h0
      · obtain ⟨_, _, h, _⟩ := hs.2 h0; cases h
    subst hm0
    have hn : news = [] := List.eq_nil_of_length_eq_zero hs.1
    subst hn
    exact ⟨A, c, w, run_append_nothing E h, by simpa using h, World.grownBy.refl w _, .inl rfl⟩
  · obtain ⟨ht, i, z, hi, hz, hz1, hz2, hz3⟩ := E
    have hcells : ∀ j u, news[j]? = some u → w.cell? (ad.add j) = some u := by
      intro j u hu
      rcases Nat.eq_zero_or_pos m with h0 | h0
      · subst h0
        have hn : news = [] := List.eq_nil_of_length_eq_zero hs.1
        subst hn
        simp at hu
      · obtain ⟨b, off, h, _, hc⟩ := hs.2 h0
        injection h with h
        subst h
        rw [add_none]
        exact hc j u hu
    obtain ⟨v', w', hrun, h2, h3, _, h5⟩ := run_append_own_at (P := P) w lo t ty e i z 1 bytes ht hi hz hz1 hz2 hz3 (by omega) _ n vs h ad m d news (by rw [hs.1]; omega) hcells h1 (by unfold maxLen; omega) hb hlo
    have hv : ∃ A' c', v' = .slice A' (n + m) c' := by
      rcases h2.2 with ⟨rfl, h0⟩ | ⟨g, cap, cur, rfl, _⟩
      · exact ⟨none, 0, by rw [h0]⟩
      · exact ⟨_, _, rfl⟩
    obtain ⟨A', c', rfl⟩ := hv
    rw [hob] at h3
    rw [hob, hob] at h5
    exact ⟨A', c', w', hrun, h2, h3, h5⟩

theorem wp_append_sl {o : Oper} {a : Act} {K : Act → World → Prop} {Q : Exit → Act → World → Prop} (s x : Operand)
    (ho : o.op = .call { callee := .builtin .append, args := #[s, x], argTypes := #[t, t] }) (E : Elem P t e bytes)
    (hs' : a.eval s = .slice A n c) (hx' : a.eval x = .slice X m d) (h : Own e w lo A n c vs) (hs : Sl w B X m news) (h1 : ∀ u ∈ news, u.oneCell' = true) (hb : (n + m) * bytes ≤ 140737488355328) (hm : n + m ≤ 4611686018427387904) (hlo : lo ≤ w.heap.size)
    (hK : ∀ A' c' w', Apd e w lo A w' A' (n + m) c' (vs ++ news) → K (a.put o.dst (.slice A' (n + m) c')) w') : o.wp P a w K Q := by
  obtain ⟨A', c', w', hrun, h2, h3, h4⟩ := run_append_sl (ty := o.type) (d := d) E h hs h1 hb hm hlo
  unfold Oper.wp execOp
  simp only [ho, resolve, invoke, builtin, Sem.run_bind, Sem.run_pure, Result.andThen_ok, List.map_toArray, List.map_cons, List.map_nil, hs', hx', hrun]
  exact hK A' c' w' ⟨h2, h3, h4⟩

theorem wpList_append_sl {ops : Array Oper} {rest : List Oper} {o : Oper} {a : Act} {Q : Exit → Act → World → Prop} (hgd : o.guard = none) (s x : Operand)
    (ho : o.op = .call { callee := .builtin .append, args := #[s, x], argTypes := #[t, t] }) (E : Elem P t e bytes)
    (hs' : a.eval s = .slice A n c) (hx' : a.eval x = .slice X m d) (h : Own e w lo A n c vs) (hs : Sl w B X m news) (h1 : ∀ u ∈ news, u.oneCell' = true) (hb : (n + m) * bytes ≤ 140737488355328) (hm : n + m ≤ 4611686018427387904) (hlo : lo ≤ w.heap.size)
    (hK : ∀ A' c' w', Apd e w lo A w' A' (n + m) c' (vs ++ news) → wpList P ops Q rest (a.put o.dst (.slice A' (n + m) c')) w') :
    wpList P ops Q (o :: rest) a w :=
  wpList_plain hgd fun _ hK' => wp_append_sl s x ho E hs' hx' h hs h1 hb hm hlo fun A' c' w' h2 => hK' _ _ (hK A' c' w' h2)

theorem step_append_sl {ops : Array Oper} {o : Oper} {a : Act} {K : Act → World → Prop} {Q : Exit → Act → World → Prop} {G : Prop} (hgd : o.guard = none) (s x : Operand)
    (ho : o.op = .call { callee := .builtin .append, args := #[s, x], argTypes := #[t, t] }) (E : Elem P t e bytes)
    (hs' : a.eval s = .slice A n c) (hx' : a.eval x = .slice X m d) (h : Own e w lo A n c vs) (hs : Sl w B X m news) (h1 : ∀ u ∈ news, u.oneCell' = true) (hb : (n + m) * bytes ≤ 140737488355328) (hm : n + m ≤ 4611686018427387904) (hlo : lo ≤ w.heap.size)
    (hK : ∀ A' c' w', Apd e w lo A w' A' (n + m) c' (vs ++ news) → K (a.put o.dst (.slice A' (n + m) c')) w') :
    if Region.wanted o (yielded ops a.tmps) = true then Oper.wp P o a w K Q else G := by
  have hw : Region.wanted o (yielded ops a.tmps) = true := by simp [Region.wanted, hgd]
  rw [if_pos hw]
  exact wp_append_sl s x ho E hs' hx' h hs h1 hb hm hlo hK

/-- An empty literal. -/
theorem Own.empty (w : World) (e : TypeId) (hlo : lo ≤ w.heap.size) : Own e (w.alloc (.cells #[] e)) lo (some ⟨w.heap.size, 0, none⟩) 0 0 [] :=
  World.ownsRow_lit w #[] 0 hlo (by unfold maxLen; omega) rfl
/-- One new cell, the literal of one element. -/
theorem Sl.one (w : World) (u : Value) (e : TypeId) : Sl (w.alloc (.cells #[u] e)) (w.heap.size + 1) (some ⟨w.heap.size, 0, none⟩) 1 [u] := by
  refine ⟨rfl, fun _ => ⟨w.heap.size, 0, rfl, by omega, fun k v hv => ?_⟩⟩
  have := cell_one_new w u e k v hv
  rwa [add_none] at this
theorem Own.alloc (h : Own e w lo A n c vs) (o : Obj) : Own e (w.alloc o) lo A n c vs := World.ownsRow.alloc h o
theorem Sl.alloc (h : Sl w B A n vs) (hB : B ≤ w.heap.size) (o : Obj) : Sl (w.alloc o) B A n vs := h.keep fun p hp => World.cell?_alloc_lt w o p (by omega)
theorem SlI.alloc {zs : List Int} (h : SlI w B A n zs) (hB : B ≤ w.heap.size) (o : Obj) : SlI (w.alloc o) B A n zs := Sl.alloc h hB o
theorem oneCell_ints (zs : List Int) : ∀ u ∈ zs.map (Value.int .i64), u.oneCell' = true := ints_oneCell _ _
end
theorem Sl.oneAt {w : World} {H : Nat} (hH : w.heap.size = H) (u : Value) (e : TypeId) : Sl (w.alloc (.cells #[u] e)) (H + 1) (some ⟨H, 0, none⟩) 1 [u] := hH ▸ Sl.one w u e
theorem Own.emptyAt {w : World} {lo H : Nat} (hH : w.heap.size = H) (e : TypeId) (hlo : lo ≤ H) : Own e (w.alloc (.cells #[] e)) lo (some ⟨H, 0, none⟩) 0 0 [] := by subst hH; exact Own.empty w e hlo
theorem Own.drew {e : TypeId} {w : World} {lo n c : Nat} {A : Option Addr} {vs : List Value} (h : Own e w lo A n c vs) : Own e w.drew lo A n c vs := h
theorem Sl.drew {w : World} {B n : Nat} {A : Option Addr} {vs : List Value} (h : Sl w B A n vs) : Sl w.drew B A n vs := h
/-- A slice that is read lies in another block than the row that an append may write. -/
theorem Sl.apd {e : TypeId} {w w' : World} {lo B n n' c' : Nat} {A A' X : Option Addr} {vs vs' : List Value} (h : Sl w B X n vs) (hB : B ≤ w.heap.size) (ha : Apd e w lo A w' A' n' c' vs') (hne : ∀ p q, A = some p → X = some q → p.block ≠ q.block) : Sl w' B X n vs := by
  refine ⟨h.1, fun hn => ?_⟩
  obtain ⟨b, off, hX, hb, hc⟩ := h.2 hn
  refine ⟨b, off, hX, hb, fun k u hu => ?_⟩
  rw [← hc k u hu]
  refine World.cell?_of_block (ha.grew.block b (by omega) ?_)
  intro hh
  cases A with
  | none => cases hh
  | some p => simp at hh; exact hne p _ rfl hX hh.symm
/-- Behind a law that ends in 'grownBy': the row that may be written lies from B on. -/
theorem below_grown {B : Nat} {a w w' : World} {A : Option Addr} (h : Below B a w) (hg : w.grownBy w' (A.map (·.block))) (hB : B ≤ w.heap.size) (hr : ∀ p, A = some p → B ≤ p.block) : Below B a w' :=
  h.grown hg hB (by
    intro k hk
    cases A with
    | none => simp at hk
    | some p => simp at hk; subst hk; exact hr p rfl)
theorem Apd.below {B B0 : Nat} {e : TypeId} {a w w' : World} {lo n' c' : Nat} {A A' : Option Addr} {vs' : List Value} (h : Apd e w lo A w' A' n' c' vs') (hb : Below B a w) (hB : B ≤ w.heap.size) (hA : ∀ p, A = some p → B0 ≤ p.block) (hB0 : B ≤ B0) : Below B a w' :=
  below_grown hb h.grew hB (fun p hp => Nat.le_trans hB0 (hA p hp))
theorem Own.fromLo {e : TypeId} {w : World} {lo n c : Nat} {A : Option Addr} {vs : List Value} (h : Own e w lo A n c vs) : ∀ p, A = some p → lo ≤ p.block := by
  rintro p rfl
  rcases h.form with ⟨h, _⟩ | ⟨g, h, h1, _⟩
  · cases h
  · injection h with h; subst h; exact h1

/-- One store more into the row that may be written. -/
theorem _root_.Go.World.grownBy.step_set {w w' : World} {row : Option Nat} (h : w.grownBy w' row) {p : Addr} (hp : some p.block = row) (u : Value) : w.grownBy (w'.setCell p u) row :=
  ⟨h.os, h.tape, h.output, by simpa [World.setCell] using h.size, fun i hi hne => (Below.heap_setCell w' p u i (by rintro rfl; exact hne hp)).trans (h.block i hi hne)⟩

/-- Nothing that was there has turned. -/
def Ext (w w' : World) : Prop := Below w.heap.size w w'
theorem Ext.refl (w : World) : Ext w w := Below.refl _ _
theorem Ext.trans {a b c : World} (h : Ext a b) (k : Ext b c) : Ext a c := Below.trans h (k.mono h.size)
theorem Ext.size {a b : World} (h : Ext a b) : a.heap.size ≤ b.heap.size := Below.size h
theorem Ext.drewN (w : World) (n : Nat) : Ext w (w.drewN n) := ⟨rfl, rfl, rfl, Nat.le_refl _, fun _ _ => rfl⟩
theorem Ext.alloc (w : World) (o : Obj) : Ext w (w.alloc o) := (Below.refl _ _).alloc (Nat.le_refl _) o
theorem Ext.drew (w : World) : Ext w w.drew := ⟨rfl, rfl, rfl, Nat.le_refl _, fun _ _ => rfl⟩

/-- Of what was there only blocks from lo to below hi may have turned. -/
structure Tch (lo hi : Nat) (w w' : World) : Prop where
  os : w'.os = w.os
  tape : w'.tape = w.tape
  output : w'.output = w.output
  size : w.heap.size ≤ w'.heap.size
  block : ∀ k, k < w.heap.size → (k < lo ∨ hi ≤ k) → w'.heap[k]? = w.heap[k]?
theorem Tch.of_ext {lo hi : Nat} {w w' : World} (h : Ext w w') : Tch lo hi w w' := ⟨h.os, h.tape, h.output, h.size, fun k hk _ => h.block k hk⟩
theorem Tch.of_grown {lo hi : Nat} {w w' : World} {A : Option Addr} (h : w.grownBy w' (A.map (·.block))) (h1 : ∀ p, A = some p → lo ≤ p.block ∧ p.block < hi) : Tch lo hi w w' :=
  ⟨h.os, h.tape, h.output, h.size, fun k hk hr => h.block k hk (by
    intro e
    cases A with
    | none => simp at e
    | some p => simp at e; have := h1 p rfl; omega)⟩
theorem Tch.trans {lo hi : Nat} {a b c : World} (h : Tch lo hi a b) (k : Tch lo hi b c) : Tch lo hi a c :=
  ⟨k.os.trans h.os, k.tape.trans h.tape, k.output.trans h.output, Nat.le_trans h.size k.size, fun i hi hr => (k.block i (Nat.lt_of_lt_of_le hi h.size) hr).trans (h.block i hi hr)⟩
theorem Below.tch {B lo hi : Nat} {a w w' : World} (h : Below B a w) (k : Tch lo hi w w') (hB : B ≤ w.heap.size) (hlo : B ≤ lo) : Below B a w' :=
  h.trans ⟨k.os, k.tape, k.output, k.size, fun i hi => k.block i (by omega) (by omega)⟩
theorem Below.ext {B : Nat} {a w w' : World} (h : Below B a w) (k : Ext w w') (hB : B ≤ w.heap.size) : Below B a w' := h.trans (k.mono hB)

theorem own_conv {e : TypeId} {w : World} {lo lo' m m' c : Nat} {A : Option Addr} {vs : List Value} {zs : List Int} (h : Own e w lo A m c vs) (hl : lo' ≤ lo) (hm : m = m') (hv : vs = zs.map (Value.int .i64)) : OwnI e w lo' A m' c zs := by
  subst hm; subst hv; exact h.lower hl

/-- An object of the call's own: a row in a block from lo to below hi. -/
def Fr (e : TypeId) (w : World) (lo hi : Nat) (A : Option Addr) (n c : Nat) (vs : List Value) : Prop := Own e w lo A n c vs ∧ hi ≤ w.heap.size ∧ ∀ p, A = some p → p.block < hi
def FrI (e : TypeId) (w : World) (lo hi : Nat) (A : Option Addr) (n c : Nat) (zs : List Int) : Prop := Fr e w lo hi A n c (zs.map (Value.int .i64))
section
variable {e : TypeId} {w w' : World} {lo hi n c : Nat} {A : Option Addr} {vs : List Value} {zs : List Int}
theorem Own.fr (h : Own e w lo A n c vs) : Fr e w lo w.heap.size A n c vs :=
  ⟨h, Nat.le_refl _, fun p hp => by
    rcases h.form with ⟨hA, _⟩ | ⟨g, hA, _, h2, _⟩
    · rw [hA] at hp; cases hp
    · rw [hA] at hp; injection hp with hp; subst hp; exact h2⟩
theorem OwnI.fr (h : OwnI e w lo A n c zs) : FrI e w lo w.heap.size A n c zs := Own.fr h
theorem FrI.own (h : FrI e w lo hi A n c zs) : OwnI e w lo A n c zs := h.1
theorem FrI.sl (h : FrI e w lo hi A n c zs) : SlI w w.heap.size A n zs := OwnI.sl h.1
theorem FrI.len (h : FrI e w lo hi A n c zs) : zs.length = n := OwnI.len h.1
theorem FrI.at_ (h : FrI e w lo hi A n c zs) : ∀ p, A = some p → lo ≤ p.block ∧ p.block < hi := fun p hp => ⟨Own.fromLo h.1 p hp, h.2.2 p hp⟩
theorem Fr.tch {lo' hi' : Nat} (h : Fr e w lo hi A n c vs) (k : Tch lo' hi' w w') (hd : hi ≤ lo' ∨ hi' ≤ lo) : Fr e w' lo hi A n c vs := by
  refine ⟨⟨h.1.1, ?_⟩, Nat.le_trans h.2.1 k.size, h.2.2⟩
  rcases h.1.2 with hh | ⟨g, cap, cur, hh, h1, h2, r⟩
  · exact .inl hh
  · refine .inr ⟨g, cap, cur, hh, h1, ?_, r⟩
    simp only [Value.slice.injEq] at hh
    have := h.2.2 _ hh.1
    rw [k.block g (Nat.lt_of_lt_of_le this h.2.1) (by rcases hd with hd | hd <;> simp at this <;> omega), h2]
theorem Fr.ext (h : Fr e w lo hi A n c vs) (k : Ext w w') : Fr e w' lo hi A n c vs := h.tch (Tch.of_ext (lo := hi) (hi := hi) k) (.inl (Nat.le_refl _))
theorem FrI.tch {lo' hi' : Nat} (h : FrI e w lo hi A n c zs) (k : Tch lo' hi' w w') (hd : hi ≤ lo' ∨ hi' ≤ lo) : FrI e w' lo hi A n c zs := Fr.tch h k hd
theorem FrI.ext (h : FrI e w lo hi A n c zs) (k : Ext w w') : FrI e w' lo hi A n c zs := Fr.ext h k
theorem SlI.ext {B : Nat} (h : SlI w B A n zs) (k : Ext w w') (hB : B ≤ w.heap.size) : SlI w' B A n zs := h.below (k.mono hB)
end

/-- An int that fits. -/
def InR (x : Int) : Prop := -9223372036854775808 ≤ x ∧ x ≤ 9223372036854775807
/-- A slice of numbers that came in. -/
structure ArgI (w : World) (A : Option Addr) (n c : Nat) (zs : List Int) : Prop where
  sl : SlI w w.heap.size A n zs
  cap : n ≤ c
  capm : c ≤ 9223372036854775807
  inr : ∀ z ∈ zs, InR z

theorem Sl.apdLo {e : TypeId} {w w' : World} {lo B n n' c' : Nat} {A A' X : Option Addr} {vs vs' : List Value} (h : Sl w B X n vs) (hB : B ≤ w.heap.size) (ha : Apd e w lo A w' A' n' c' vs') (hA : ∀ p, A = some p → B ≤ p.block) : Sl w' B X n vs := by
  refine ⟨h.1, fun hn => ?_⟩
  obtain ⟨b, off, hX, hb, hc⟩ := h.2 hn
  refine ⟨b, off, hX, hb, fun k u hu => ?_⟩
  rw [← hc k u hu]
  refine World.cell?_of_block (ha.grew.block b (by omega) ?_)
  intro hh
  cases A with
  | none => cases hh
  | some p => simp at hh; have := hA p rfl; omega
theorem Apd.ext {e : TypeId} {a w w' : World} {lo n' c' : Nat} {A A' : Option Addr} {vs' : List Value} (h : Apd e w lo A w' A' n' c' vs') (hx : Ext a w) (hA : ∀ p, A = some p → a.heap.size ≤ p.block) : Ext a w' :=
  below_grown hx h.grew hx.size hA
theorem Apd.size {e : TypeId} {w w' : World} {lo n' c' : Nat} {A A' : Option Addr} {vs' : List Value} (h : Apd e w lo A w' A' n' c' vs') : w.heap.size ≤ w'.heap.size := h.grew.size
theorem not_t {b : Bool} (h : (!b) = true) : b = false := by simpa using h
theorem not_f {b : Bool} (h : (!b) = false) : b = true := by simpa using h
theorem ret_bool {a b : Bool} (h : a = b) : Ending.returned (.bool a) = .returned (.bool b) := by rw [h]
theorem ret_int {a b : Int} (h : a = b) : Ending.returned (.int .i64 a) = .returned (.int .i64 b) := by rw [h]
end Go.Proofs.Ytmckompikbechaa
