/- Typed memory: what lies in the rows that a draw makes has its kind, and nothing else need be known of it. -/
import Derived.Test.YtofmfagdaiphaaaEA
namespace Go.Proofs.Ytofmfagdaiphaaa
open Go.RowKit Go.Sort
set_option linter.unusedVariables false

/-- Kinds of cells; a slice has p elements at least. -/
inductive VK where
  | str | int | bool
  | sl (ks : List VK) (e : TypeId) (p : Nat)
/-- What each row holds: the kinds of an element's cells, its type, how many elements are known, how many there is room for. -/
abbrev Typ := Nat → Option (List VK × TypeId × Nat × Nat)
def ST (T : Typ) (ks : List VK) (e : TypeId) (A : Option Addr) (n c : Nat) : Prop :=
  (A = none ∧ n = 0 ∧ c = 0) ∨ ∃ b m, A = some ⟨b, 0, none⟩ ∧ T b = some (ks, e, m, c) ∧ n ≤ m
def VT (T : Typ) : VK → Value → Prop
  | .str, v => IsStr v
  | .int, v => ∃ z : Int, v = .int .i64 z
  | .bool, v => ∃ q : Bool, v = .bool q
  | .sl ks e p, v => ∃ A n c, v = .slice A n c ∧ ST T ks e A n c ∧ p ≤ n
/-- n elements, cell by cell. -/
def EL (T : Typ) (ks : List VK) (n : Nat) (at_ : Nat → Option Value) : Prop := ∀ i, i < n → ∀ j k, ks[j]? = some k → ∃ v, at_ (i * ks.length + j) = some v ∧ VT T k v
structure TLe (T T' : Typ) (h : Nat) : Prop where
  ge : ∀ b ks e m c, T b = some (ks, e, m, c) → ∃ m', m ≤ m' ∧ T' b = some (ks, e, m', c)
  new : ∀ b, b < h → T b = none → T' b = none
theorem TLe.refl (T : Typ) (h : Nat) : TLe T T h := ⟨fun b ks e m c hb => ⟨m, Nat.le_refl _, hb⟩, fun b _ hb => hb⟩
theorem TLe.trans {T T1 T2 : Typ} {h h' : Nat} (a : TLe T T1 h) (b : TLe T1 T2 h') (hh : h ≤ h') : TLe T T2 h :=
  ⟨fun i ks e m c hi => by
    obtain ⟨m1, h1, h2⟩ := a.ge i ks e m c hi
    obtain ⟨m2, h3, h4⟩ := b.ge i ks e m1 c h2
    exact ⟨m2, by omega, h4⟩, fun i hi hn => b.new i (by omega) (a.new i hi hn)⟩
theorem TLe.less {T T' : Typ} {h h' : Nat} (a : TLe T T' h) (hh : h' ≤ h) : TLe T T' h' := ⟨a.ge, fun b hb hn => a.new b (by omega) hn⟩
section
variable {T T' : Typ} {h : Nat} {ks : List VK} {e : TypeId} {A : Option Addr} {n c : Nat}
theorem ST.mono (s : ST T ks e A n c) (l : TLe T T' h) : ST T' ks e A n c := by
  rcases s with s | ⟨b, m, rfl, hb, hn⟩
  · exact .inl s
  · obtain ⟨m', h1, h2⟩ := l.ge b ks e m c hb
    exact .inr ⟨b, m', rfl, h2, by omega⟩
theorem ST.sub {n' : Nat} (s : ST T ks e A n c) (hn : n' ≤ n) : ST T ks e A n' c := by
  rcases s with ⟨rfl, rfl, rfl⟩ | ⟨b, m, rfl, hb, hm⟩
  · exact .inl ⟨rfl, by omega, rfl⟩
  · exact .inr ⟨b, m, rfl, hb, by omega⟩
theorem ST.none_ : ST T ks e none 0 0 := .inl ⟨rfl, rfl, rfl⟩
theorem ST.pos (s : ST T ks e A n c) (hn : 0 < n) : ∃ b m, A = some ⟨b, 0, none⟩ ∧ T b = some (ks, e, m, c) ∧ n ≤ m := by
  rcases s with ⟨_, h, _⟩ | s
  · omega
  · exact s
theorem VT.mono {k : VK} {v : Value} (s : VT T k v) (l : TLe T T' h) : VT T' k v := by
  cases k with
  | str => exact s
  | int => exact s
  | bool => exact s
  | sl ks e p =>
    obtain ⟨A, n, c, rfl, hs, hp⟩ := s
    exact ⟨A, n, c, rfl, hs.mono l, hp⟩
theorem VT.one {k : VK} {v : Value} (s : VT T k v) : v.oneCell' = true := by
  cases k with
  | str => obtain ⟨y, rfl, _⟩ := s; rfl
  | int => obtain ⟨z, rfl⟩ := s; rfl
  | bool => obtain ⟨q, rfl⟩ := s; rfl
  | sl ks e p => obtain ⟨A, n, c, rfl, _⟩ := s; rfl
theorem EL.mono {at_ : Nat → Option Value} (s : EL T ks n at_) (l : TLe T T' h) : EL T' ks n at_ := fun i hi j k hk => by
  obtain ⟨v, h1, h2⟩ := s i hi j k hk
  exact ⟨v, h1, h2.mono l⟩
theorem EL.congr {f g : Nat → Option Value} (s : EL T ks n f) (h : ∀ q, q < n * ks.length → g q = f q) : EL T ks n g := fun i hi j k hk => by
  obtain ⟨v, h1, h2⟩ := s i hi j k hk
  refine ⟨v, ?_, h2⟩
  have hj := (List.getElem?_eq_some_iff.1 hk).1
  have : (i + 1) * ks.length ≤ n * ks.length := Nat.mul_le_mul_right _ hi
  rw [Nat.add_mul] at this
  rw [h _ (by omega), h1]
theorem EL.one {f : Nat → Option Value} (s : EL T ks n f) : ∀ q u, q < n * ks.length → f q = some u → u.oneCell' = true := by
  intro q u hq hu
  have hp : 0 < ks.length := by
    rcases Nat.eq_zero_or_pos ks.length with h0 | h0
    · rw [h0] at hq; omega
    · exact h0
  have hi : q / ks.length < n := (Nat.div_lt_iff_lt_mul hp).2 hq
  have hj : q % ks.length < ks.length := Nat.mod_lt _ hp
  obtain ⟨v, h1, h2⟩ := s _ hi _ _ (List.getElem?_eq_getElem hj)
  have e := Nat.div_add_mod q ks.length
  rw [Nat.mul_comm] at e
  rw [e, hu] at h1
  injection h1 with h1
  rw [h1]; exact h2.one
end

structure TS (lo L : Nat) (T : Typ) (w : World) : Prop where
  lt : ∀ b r, T b = some r → lo ≤ b ∧ b < w.heap.size
  row : ∀ b ks e m c, T b = some (ks, e, m, c) → m ≤ L ∧ m ≤ c ∧ c ≤ maxLen ∧ ∃ cur, w.heap[b]? = some (.cells cur e (0, 0)) ∧ cur.size = c * ks.length ∧ EL T ks m (fun q => cur[q]?)
/-- All but the cursor and the typed rows is as it was. -/
structure KT (g : Nat) (T : Typ) (w w' : World) : Prop where
  os : w'.os = w.os
  tape : w'.tape = w.tape
  output : w'.output = w.output
  size : w.heap.size ≤ w'.heap.size
  block : ∀ b, b < w.heap.size → b ≠ g → T b = none → w'.heap[b]? = w.heap[b]?
section
variable {g : Nat} {T T' : Typ} {w w1 w' : World}
theorem KT.of_tchF {fp : List Nat} (k : TchF fp w w') (h : ∀ i ∈ fp, i = g ∨ T i ≠ none) : KT g T w w' :=
  ⟨k.os, k.tape, k.output, k.size, fun b hb hg hT => k.block b hb (fun hm => by rcases h b hm with e | e; exact hg e; exact e hT)⟩
theorem KT.of_ext (k : Ext w w') : KT g T w w' := KT.of_tchF (TchF.of_ext k (fp := [])) (by simp)
theorem KT.refl : KT g T w w := KT.of_ext (Ext.refl _)
theorem KT.of_cur (k : TchF [g] w w') : KT g T w w' := KT.of_tchF k (fun i hi => .inl (by simpa using hi))
theorem KT.trans (h : KT g T w w1) (k : KT g T' w1 w') (l : TLe T T' w.heap.size) : KT g T w w' :=
  ⟨k.os.trans h.os, k.tape.trans h.tape, k.output.trans h.output, Nat.le_trans h.size k.size, fun b hb hg hT => (k.block b (Nat.lt_of_lt_of_le hb h.size) hg (l.new b hb hT)).trans (h.block b hb hg hT)⟩
theorem KT.put (b : Nat) (hb : w.heap.size ≤ b ∨ b = g ∨ T b ≠ none) (i : Nat) (u : Value) : KT g T w (w.setCell ⟨b, i, none⟩ u) :=
  ⟨rfl, rfl, rfl, by simp [World.setCell], fun k hk hg hT => Below.heap_setCell _ _ _ _ (fun (e : k = b) => by
    subst e
    rcases hb with h | h | h
    · omega
    · exact hg h
    · exact h hT)⟩
theorem Blk.kt {b : Nat} {cs : Array Value} {t : TypeId} (h : Blk w b cs t) (k : KT g T w w') (hb : b ≠ g) (hT : T b = none) : Blk w' b cs t := (k.block b h.lt hb hT).trans h
end
section
variable {lo L : Nat} {T T' : Typ} {w w' : World} {ks : List VK} {e : TypeId} {A : Option Addr} {n c m b : Nat}
theorem TS.none_of (h : TS lo L T w) (hb : w.heap.size ≤ b) : T b = none := by
  cases hT : T b with
  | none => rfl
  | some r => have := h.lt b r hT; omega
theorem TS.none_lo (h : TS lo L T w) (hb : b < lo) : T b = none := by
  cases hT : T b with
  | none => rfl
  | some r => have := h.lt b r hT; omega
theorem TS.keep (h : TS lo L T w) (hs : w.heap.size ≤ w'.heap.size) (k : ∀ b, T b ≠ none → w'.heap[b]? = w.heap[b]?) : TS lo L T w' where
  lt b r hb := ⟨(h.lt b r hb).1, by have := (h.lt b r hb).2; omega⟩
  row b ks e m c hb := by
    obtain ⟨h1, h2, h3, cur, h4, h5⟩ := h.row b ks e m c hb
    exact ⟨h1, h2, h3, cur, by rw [k b (by rw [hb]; simp), h4], h5⟩
theorem TS.ext (h : TS lo L T w) (k : Ext w w') : TS lo L T w' := h.keep k.size fun b hb => by
  cases hT : T b with
  | none => exact absurd hT hb
  | some r => exact k.block b (h.lt b r hT).2
theorem TS.tchF {fp : List Nat} (h : TS lo L T w) (k : TchF fp w w') (hd : ∀ i ∈ fp, T i = none) : TS lo L T w' := h.keep k.size fun b hb => by
  cases hT : T b with
  | none => exact absurd hT hb
  | some r => exact k.block b (h.lt b r hT).2 (fun hm => by rw [hd b hm] at hT; cases hT)
theorem TS.moreL {L' : Nat} (h : TS lo L T w) (hl : L ≤ L') : TS lo L' T w := ⟨h.lt, fun b ks e m c hb => by
  obtain ⟨h1, h2⟩ := h.row b ks e m c hb
  exact ⟨by omega, h2⟩⟩
theorem TS.lowLo {lo' : Nat} (h : TS lo L T w) (hl : lo' ≤ lo) : TS lo' L T w := ⟨fun b r hb => by have := h.lt b r hb; omega, h.row⟩
theorem TS.len (h : TS lo L T w) (s : ST T ks e A n c) : n ≤ L ∧ n ≤ c ∧ c ≤ maxLen := by
  rcases s with ⟨_, rfl, rfl⟩ | ⟨b, m, _, hb, hn⟩
  · exact ⟨Nat.zero_le _, Nat.le_refl _, Nat.zero_le _⟩
  · obtain ⟨h1, h2, h3, _⟩ := h.row b ks e m c hb
    exact ⟨by omega, by omega, h3⟩
/-- A cell read. -/
theorem TS.load (h : TS lo L T w) (s : ST T ks e A n c) {i j : Nat} {k : VK} (hi : i < n) (hj : ks[j]? = some k) : ∃ b v, A = some ⟨b, 0, none⟩ ∧ w.cell? ⟨b, i * ks.length + j, none⟩ = some v ∧ VT T k v ∧ lo ≤ b ∧ b < w.heap.size ∧ T b ≠ none := by
  obtain ⟨b, m, rfl, hb, hm⟩ := s.pos (by omega)
  obtain ⟨h1, h2, h3, cur, h4, h5, h6⟩ := h.row b ks e m c hb
  obtain ⟨v, h7, h8⟩ := h6 i (by omega) j k hj
  exact ⟨b, v, rfl, (cell_of_row w b _ cur e (0, 0) h4).trans h7, h8, (h.lt b _ hb).1, (h.lt b _ hb).2, by rw [hb]; simp⟩
theorem TS.free (h : TS lo L T w) (hb : T b ≠ none) (j : Nat) : w.frozen? ⟨b, j, none⟩ = false := by
  cases hT : T b with
  | none => exact absurd hT hb
  | some r =>
    obtain ⟨ks, e, m, c⟩ := r
    obtain ⟨h1, h2, h3, cur, h4, _⟩ := h.row b ks e m c hT
    exact frozen_of_row w b j cur e h4
theorem idx_eq {s i i' j j' : Nat} (hj : j < s) (hj' : j' < s) (h : i * s + j = i' * s + j') : i = i' ∧ j = j' := by
  have e1 : (i * s + j) / s = i := by rw [Nat.add_comm, Nat.mul_comm, Nat.add_mul_div_left _ _ (by omega), Nat.div_eq_of_lt hj]; omega
  have e2 : (i' * s + j') / s = i' := by rw [Nat.add_comm, Nat.mul_comm, Nat.add_mul_div_left _ _ (by omega), Nat.div_eq_of_lt hj']; omega
  have : i = i' := by rw [← e1, h, e2]
  subst this
  exact ⟨rfl, by omega⟩
/-- A cell stored. -/
theorem TS.store (h : TS lo L T w) (hb : T b = some (ks, e, m, c)) {i j : Nat} {k : VK} {u : Value} (hj : ks[j]? = some k) (hu : VT T k u) : TS lo L T (w.setCell ⟨b, i * ks.length + j, none⟩ u) where
  lt b' r hb' := by have := h.lt b' r hb'; simpa [World.setCell] using this
  row b' ks' e' m' c' hb' := by
    obtain ⟨h1, h2, h3, cur, h4, h5, h6⟩ := h.row b' ks' e' m' c' hb'
    by_cases hbb : b' = b
    · subst hbb
      rw [hb] at hb'
      simp only [Option.some.injEq, Prod.mk.injEq] at hb'
      obtain ⟨rfl, rfl, rfl, rfl⟩ := hb'
      refine ⟨h1, h2, h3, cur.setIfInBounds (i * ks.length + j) u, heap_setCell_same w b' _ cur e u h4, by simpa using h5, fun i' hi' j' k' hk' => ?_⟩
      obtain ⟨v, h7, h8⟩ := h6 i' hi' j' k' hk'
      by_cases hq : i * ks.length + j = i' * ks.length + j'
      · obtain ⟨_, e2⟩ := idx_eq (List.getElem?_eq_some_iff.1 hj).1 (List.getElem?_eq_some_iff.1 hk').1 hq
        subst e2
        rw [hj] at hk'
        injection hk' with hk'
        subst hk'
        refine ⟨u, ?_, hu⟩
        show (cur.setIfInBounds _ u)[_]? = _
        rw [Array.getElem?_setIfInBounds, if_pos hq, if_pos (by rw [hq]; exact (Array.getElem?_eq_some_iff.1 h7).1)]
      · refine ⟨v, ?_, h8⟩
        show (cur.setIfInBounds _ u)[_]? = _
        rw [Array.getElem?_setIfInBounds, if_neg hq]
        exact h7
    · exact ⟨h1, h2, h3, cur, by rw [Below.heap_setCell _ _ _ _ (show b' ≠ b from hbb), h4], h5, h6⟩
def Typ.put (T : Typ) (b : Nat) (r : List VK × TypeId × Nat × Nat) : Typ := fun i => if i = b then some r else T i
theorem Typ.put_same (T : Typ) (b : Nat) (r) : T.put b r b = some r := by simp [Typ.put]
theorem Typ.put_other {T : Typ} {b i : Nat} {r} (h : i ≠ b) : T.put b r i = T i := by simp [Typ.put, h]
theorem TLe.put_new {T : Typ} {b : Nat} {r} (h : T b = none) : TLe T (T.put b r) b :=
  ⟨fun i ks e m c hi => ⟨m, Nat.le_refl _, by rw [Typ.put_other (by rintro rfl; rw [h] at hi; cases hi), hi]⟩, fun i hi hn => by rw [Typ.put_other (by omega), hn]⟩
/-- A row added that lies in the world already. -/
theorem TS.add (h : TS lo L T w) (hT : T b = none) (hlo : lo ≤ b) {cur : Array Value} (hb : w.heap[b]? = some (.cells cur e (0, 0))) (hm : m ≤ L) (hc : m ≤ c) (hcm : c ≤ maxLen) (hs : cur.size = c * ks.length) (hel : EL T ks m (fun q => cur[q]?)) : TS lo L (T.put b (ks, e, m, c)) w ∧ TLe T (T.put b (ks, e, m, c)) b := by
  have hl := TLe.put_new (r := (ks, e, m, c)) hT
  refine ⟨⟨fun i r hi => ?_, fun i ks' e' m' c' hi => ?_⟩, hl⟩
  · by_cases hib : i = b
    · subst hib; exact ⟨hlo, (Array.getElem?_eq_some_iff.1 hb).1⟩
    · rw [Typ.put_other hib] at hi; exact h.lt i r hi
  · by_cases hib : i = b
    · subst hib
      rw [Typ.put_same] at hi
      simp only [Option.some.injEq, Prod.mk.injEq] at hi
      obtain ⟨rfl, rfl, rfl, rfl⟩ := hi
      exact ⟨hm, hc, hcm, cur, hb, hs, hel.mono hl⟩
    · rw [Typ.put_other hib] at hi
      obtain ⟨h1, h2, h3, cur', h4, h5, h6⟩ := h.row i ks' e' m' c' hi
      exact ⟨h1, h2, h3, cur', h4, h5, h6.mono hl⟩
/-- A row newly laid. -/
theorem TS.lit (h : TS lo L T w) (hlo : lo ≤ w.heap.size) (cs : Array Value) (n : Nat) (e : TypeId) (hn : n ≤ L) (hL : n ≤ maxLen) (hs : cs.size = n * ks.length) (hel : EL T ks n (fun q => cs[q]?)) :
    TS lo L (T.put w.heap.size (ks, e, n, n)) (w.alloc (.cells cs e)) ∧ TLe T (T.put w.heap.size (ks, e, n, n)) w.heap.size ∧ ST (T.put w.heap.size (ks, e, n, n)) ks e (some ⟨w.heap.size, 0, none⟩) n n := by
  have h1 := (h.ext (Ext.alloc w (.cells cs e))).add (e := e) (ks := ks) (m := n) (c := n) (h.none_of (Nat.le_refl _)) hlo (heap_alloc_new w _) hn (Nat.le_refl _) hL hs hel
  exact ⟨h1.1, h1.2, .inr ⟨_, n, rfl, Typ.put_same _ _ _, Nat.le_refl _⟩⟩
end

theorem get_mid {a : Nat} {l news : List Value} (h : a + news.length ≤ l.length) (q : Nat) : (l.take a ++ news ++ l.drop (a + news.length))[q]? = if q < a then l[q]? else if q < a + news.length then news[q - a]? else l[q]? := by
  have e1 : (l.take a).length = a := by simp; omega
  by_cases h1 : q < a
  · rw [if_pos h1, List.append_assoc, List.getElem?_append_left (by omega), List.getElem?_take, if_pos h1]
  · rw [if_neg h1]
    by_cases h2 : q < a + news.length
    · rw [if_pos h2, List.getElem?_append_left (by simp; omega), List.getElem?_append_right (by omega), e1]
    · rw [if_neg h2, List.getElem?_append_right (by simp; omega), List.getElem?_drop]
      congr 1
      simp [e1]; omega
theorem EL.app {T : Typ} {ks : List VK} {n m : Nat} {f g h : Nat → Option Value} (h1 : EL T ks n f) (h2 : EL T ks m g) (e1 : ∀ q, q < n * ks.length → h q = f q) (e2 : ∀ q, q < m * ks.length → h (n * ks.length + q) = g q) : EL T ks (n + m) h := by
  intro i hi j k hk
  have hj := (List.getElem?_eq_some_iff.1 hk).1
  by_cases hin : i < n
  · obtain ⟨v, h3, h4⟩ := h1 i hin j k hk
    refine ⟨v, ?_, h4⟩
    have : (i + 1) * ks.length ≤ n * ks.length := Nat.mul_le_mul_right _ hin
    rw [Nat.add_mul] at this
    rw [e1 _ (by omega), h3]
  · obtain ⟨i', rfl⟩ : ∃ i', i = n + i' := ⟨i - n, by omega⟩
    obtain ⟨v, h3, h4⟩ := h2 i' (by omega) j k hk
    refine ⟨v, ?_, h4⟩
    have : (i' + 1) * ks.length ≤ m * ks.length := Nat.mul_le_mul_right _ (by omega)
    rw [Nat.add_mul] at this
    rw [Nat.add_mul, Nat.add_assoc, e2 _ (by omega), h3]

/-- What an append leaves. -/
structure ApT (lo L : Nat) (T : Typ) (ks : List VK) (e : TypeId) (w : World) (n' : Nat) (w' : World) (A' : Option Addr) (c' : Nat) (T' : Typ) : Prop where
  ts : TS lo L T' w'
  le : TLe T T' w.heap.size
  st : ST T' ks e A' n' c'
  kt : ∀ g, KT g T w w'
  fp : TchF [] w w' ∨ ∃ b, T b ≠ none ∧ TchF [b] w w'
section
variable {lo L : Nat} {T : Typ} {w : World} {ks : List VK} {e : TypeId} {A : Option Addr} {n c m d gl : Nat} {P : Program} {t ty : TypeId} {bytes : Nat} {z : Value} {news : List Value}
theorem run_append_T (E : ElemN P t e ks.length bytes z) (h : TS lo L T w) (hlo : lo ≤ w.heap.size) (hs : ST T ks e A n c) (hk : 0 < ks.length) (hl : news.length = m * ks.length)
    (hsrc : ∀ j u, news[j]? = some u → w.cell? ⟨gl, 0 + j, none⟩ = some u) (hel : EL T ks m (fun q => news[q]?)) (hm : 0 < m) (hL : n + m ≤ L) (hL2 : L ≤ 1000000000) (hb : (n + m) * bytes ≤ 140737488355328) :
    ∃ A' c' w' T', (Builtin.append_ #[t, t] ty #[.slice A n c, .slice (some ⟨gl, 0, none⟩) m d]).run P w = .ok (.slice A' (n + m) c') w' ∧ ApT lo L T ks e w (n + m) w' A' c' T' := by
  obtain ⟨ht, i, hi, hz, hz1, hz2, hz3⟩ := E
  have hnews : ∀ j u, news[j]? = some u → w.cell? ((⟨gl, 0, none⟩ : Addr).add j) = some u := fun j u hu => by rw [add_none]; exact hsrc j u hu
  have hone : ∀ u ∈ news, u.oneCell' = true := by
    intro u hu
    obtain ⟨q, hq, rfl⟩ := List.getElem_of_mem hu
    exact hel.one q _ (by omega) (List.getElem?_eq_getElem hq)
  have hmax : n + m ≤ maxLen := by unfold maxLen; omega
  have grown : ∀ (olds : List Value) (old : Nat), old < n + m → olds.length = n * ks.length → EL T ks n (fun q => olds[q]?) →
      ∃ T', ApT lo L T ks e w (n + m) (w.drew.alloc (.cells (olds.toArray ++ news.toArray ++ Builtin.zeroCells z.cells (grownCap w (n + m) old e - (n + m))) e)) (some ⟨w.heap.size, 0, none⟩) (grownCap w (n + m) old e) T' := by
    intro olds old ho hlo' hol
    have hge := grownCap_ge w (n + m) old e
    have hcm : grownCap w (n + m) old e ≤ maxLen := grownCap_le_maxLen w (n + m) old e hmax
    obtain ⟨cur, hcur⟩ : ∃ cur, cur = olds.toArray ++ news.toArray ++ Builtin.zeroCells z.cells (grownCap w (n + m) old e - (n + m)) := ⟨_, rfl⟩
    rw [← hcur]
    have hx : Ext w (w.drew.alloc (.cells cur e)) := (Ext.drew w).trans (Ext.alloc _ _)
    have hcl : cur.size = grownCap w (n + m) old e * ks.length := by
      rw [hcur]
      simp only [Array.size_append, List.size_toArray, size_zeroCells, hz3, hlo', hl, ← Nat.add_mul]
      congr 1
      omega
    have hat : ∀ q, q < (n + m) * ks.length → cur[q]? = (olds ++ news)[q]? := by
      intro q hq
      rw [hcur, Array.getElem?_append_left (by simp [hlo', hl, ← Nat.add_mul]; exact hq)]
      simp
    have hel2 : EL T ks (n + m) (fun q => cur[q]?) := by
      refine EL.app hol hel (fun q hq => ?_) (fun q hq => ?_)
      · show cur[q]? = _
        rw [hat q (by rw [Nat.add_mul]; omega), List.getElem?_append_left (by omega)]
      · show cur[n * ks.length + q]? = _
        rw [hat _ (by rw [Nat.add_mul]; omega), List.getElem?_append_right (by omega), hlo']
        congr 1; omega
    have h1 := (h.ext hx).add (e := e) (ks := ks) (m := n + m) (c := grownCap w (n + m) old e) (b := w.heap.size) (cur := cur) (h.none_of (Nat.le_refl _)) hlo (heap_alloc_new w.drew _) hL hge hcm hcl hel2
    exact ⟨_, h1.1, h1.2, .inr ⟨_, _, rfl, Typ.put_same _ _ _, Nat.le_refl _⟩, fun g => KT.of_ext hx, .inl (TchF.of_ext hx)⟩
  rcases hs with ⟨rfl, rfl, rfl⟩ | ⟨b, m0, rfl, hb0, hn⟩
  · have hr := run_append_nil (P := P) w t ty e i z ht hi hz ⟨gl, 0, none⟩ m d news (by rw [hl, hz1]) hnews hm (by omega) (by rw [hz2]; simp only [Nat.zero_add] at hb; omega)
    obtain ⟨T', hT'⟩ := grown [] 0 (by omega) (by simp) (fun i hi => absurd hi (by omega))
    simp only [Nat.zero_add, Array.empty_append] at hT' ⊢
    exact ⟨_, _, _, T', hr, hT'⟩
  · obtain ⟨h1, h2, h3, cur, h4, h5, h6⟩ := h.row b ks e m0 c hb0
    by_cases hroom : n + m ≤ c
    · have hfit : n * ks.length + news.length ≤ cur.size := by rw [hl, h5, ← Nat.add_mul]; exact Nat.mul_le_mul_right _ hroom
      have hr := run_append_room (P := P) w t ty e i ht hi b n c cur h4 ⟨gl, 0, none⟩ m d news (by rw [hl, hz1]) hnews hone hroom (by rw [hz1]; exact hfit)
      rw [hz1] at hr
      obtain ⟨cur', hcur'⟩ : ∃ cur', cur' = (cur.toList.take (n * ks.length) ++ news ++ cur.toList.drop (n * ks.length + news.length)).toArray := ⟨_, rfl⟩
      rw [← hcur'] at hr
      have hat : ∀ q, cur'[q]? = if q < n * ks.length then cur[q]? else if q < n * ks.length + news.length then news[q - n * ks.length]? else cur[q]? := by
        intro q
        rw [hcur', List.getElem?_toArray, get_mid (by simpa using hfit)]
        simp
      have hsz : cur'.size = cur.size := by
        rw [hcur']
        simp only [List.size_toArray, List.length_append, List.length_take, List.length_drop, Array.length_toList]
        omega
      have hblk := setRow_heap w b cur cur' e (0, 0) h4
      have hoth : ∀ k, k ≠ b → (w.setRow b cur').heap[k]? = w.heap[k]? := fun k hk => setRow_other w b k cur' hk
      have hels : EL T ks (n + m) (fun q => cur'[q]?) := by
        refine EL.app (f := fun q => cur[q]?) (fun i hi => h6 i (by omega)) hel (fun q hq => ?_) (fun q hq => ?_)
        · show cur'[q]? = _
          rw [hat, if_pos hq]
        · show cur'[n * ks.length + q]? = _
          rw [hat, if_neg (by omega), if_pos (by omega)]
          congr 1; omega
      have helm : EL T ks (max m0 (n + m)) (fun q => cur'[q]?) := by
        intro i hi j k hk
        by_cases hin : i < n + m
        · exact hels i hin j k hk
        · obtain ⟨v, h7, h8⟩ := h6 i (by omega) j k hk
          refine ⟨v, ?_, h8⟩
          have hge : (n + m) * ks.length ≤ i * ks.length := Nat.mul_le_mul_right _ (by omega)
          rw [Nat.add_mul] at hge
          show cur'[_]? = _
          rw [hat, if_neg (by omega), if_neg (by omega)]
          exact h7
      have hle : TLe T (T.put b (ks, e, max m0 (n + m), c)) w.heap.size := by
        refine ⟨fun k ks' e' m' c' hk => ?_, fun k hk hn => ?_⟩
        · by_cases hkb : k = b
          · subst hkb
            rw [hb0] at hk
            simp only [Option.some.injEq, Prod.mk.injEq] at hk
            obtain ⟨rfl, rfl, rfl, rfl⟩ := hk
            exact ⟨_, Nat.le_max_left _ _, Typ.put_same _ _ _⟩
          · exact ⟨m', Nat.le_refl _, by rw [Typ.put_other hkb, hk]⟩
        · rw [Typ.put_other (by rintro rfl; rw [hb0] at hn; cases hn), hn]
      have hfp : TchF [b] w (w.setRow b cur') := ⟨rfl, rfl, rfl, by simp [World.setRow], fun k hk hm => hoth k (by simpa using hm)⟩
      refine ⟨_, _, _, T.put b (ks, e, max m0 (n + m), c), hr, ⟨fun k r hk => ?_, fun k ks' e' m' c' hk => ?_⟩, hle, .inr ⟨b, _, rfl, Typ.put_same _ _ _, Nat.le_max_right _ _⟩, fun g => KT.of_tchF hfp (fun i hi => .inr (by simp at hi; subst hi; rw [hb0]; simp)), .inr ⟨b, by rw [hb0]; simp, hfp⟩⟩
      · have hsz2 : (w.setRow b cur').heap.size = w.heap.size := by simp [World.setRow]
        by_cases hkb : k = b
        · subst hkb; have := h.lt k _ hb0; omega
        · rw [Typ.put_other hkb] at hk; have := h.lt k r hk; omega
      · by_cases hkb : k = b
        · subst hkb
          rw [Typ.put_same] at hk
          simp only [Option.some.injEq, Prod.mk.injEq] at hk
          obtain ⟨rfl, rfl, rfl, rfl⟩ := hk
          exact ⟨by omega, by omega, h3, cur', hblk, by rw [hsz, h5], helm.mono hle⟩
        · rw [Typ.put_other hkb] at hk
          obtain ⟨q1, q2, q3, cur2, q4, q5, q6⟩ := h.row k ks' e' m' c' hk
          exact ⟨q1, q2, q3, cur2, by rw [hoth k hkb, q4], q5, q6.mono hle⟩
    · have hnl : n * ks.length ≤ cur.toList.length := by
        have e1 : n * ks.length ≤ c * ks.length := Nat.mul_le_mul_right _ (by omega)
        have e2 : cur.toList.length = c * ks.length := by simpa using h5
        omega
      have hol : (cur.toList.take (n * ks.length)).length = n * ks.length := by rw [List.length_take]; omega
      have holds : ∀ j u, (cur.toList.take (n * ks.length))[j]? = some u → w.cell? ((⟨b, 0, none⟩ : Addr).add j) = some u := by
        intro j u hu
        rw [add_none, Nat.zero_add, cell_of_row w b j cur e (0, 0) h4]
        rw [List.getElem?_take] at hu
        split at hu
        · simpa using hu
        · cases hu
      have hr := run_append_grow (P := P) w t ty e i z ht hi hz ⟨b, 0, none⟩ n c _ (by rw [hol, hz1]) holds ⟨gl, 0, none⟩ m d news (by rw [hl, hz1]) hnews (by omega) (by unfold maxLen at hmax; omega) (growslice_fits (by omega) (by rw [hz2]; exact hb))
      obtain ⟨T', hT'⟩ := grown (cur.toList.take (n * ks.length)) c (by omega) hol (by
        intro i hi j k hk
        obtain ⟨v, h7, h8⟩ := h6 i (by omega) j k hk
        refine ⟨v, ?_, h8⟩
        have hj := (List.getElem?_eq_some_iff.1 hk).1
        have : (i + 1) * ks.length ≤ n * ks.length := Nat.mul_le_mul_right _ hi
        rw [Nat.add_mul] at this
        show (cur.toList.take _)[_]? = _
        rw [List.getElem?_take, if_pos (by omega)]
        simpa using h7)
      exact ⟨_, _, _, T', hr, hT'⟩
theorem wp_append_T {o : Oper} {a : Act} {Q : Exit → Act → World → Prop} {KK : Act → World → Prop} (s y : Operand)
    (hop : o.op = .call { callee := .builtin .append, args := #[s, y], argTypes := #[t, t] }) (E : ElemN P t e ks.length bytes z) (hs' : a.eval s = .slice A n c) (hx' : a.eval y = .slice (some ⟨gl, 0, none⟩) m d)
    (h : TS lo L T w) (hlo : lo ≤ w.heap.size) (hs : ST T ks e A n c) (hk : 0 < ks.length) (hl : news.length = m * ks.length)
    (hsrc : ∀ j u, news[j]? = some u → w.cell? ⟨gl, 0 + j, none⟩ = some u) (hel : EL T ks m (fun q => news[q]?)) (hm : 0 < m) (hL : n + m ≤ L) (hL2 : L ≤ 1000000000) (hb : (n + m) * bytes ≤ 140737488355328)
    (hK : ∀ A' c' w' T', ApT lo L T ks e w (n + m) w' A' c' T' → KK (a.put o.dst (.slice A' (n + m) c')) w') : o.wp P a w KK Q := by
  obtain ⟨A', c', w', T', hrun, hap⟩ := run_append_T (ty := o.type) (d := d) E h hlo hs hk hl hsrc hel hm hL hL2 hb
  unfold Oper.wp execOp
  simp only [hop, resolve, invoke, builtin, Sem.run_bind, Sem.run_pure, Result.andThen_ok, List.map_toArray, List.map_cons, List.map_nil, hs', hx', hrun]
  exact hK A' c' w' T' hap
theorem wpList_append_T {ops : Array Oper} {rest : List Oper} {o : Oper} {a : Act} {Q : Exit → Act → World → Prop} (hgd : o.guard = none) (s y : Operand)
    (hop : o.op = .call { callee := .builtin .append, args := #[s, y], argTypes := #[t, t] }) (E : ElemN P t e ks.length bytes z) (hs' : a.eval s = .slice A n c) (hx' : a.eval y = .slice (some ⟨gl, 0, none⟩) m d)
    (h : TS lo L T w) (hlo : lo ≤ w.heap.size) (hs : ST T ks e A n c) (hk : 0 < ks.length) (hl : news.length = m * ks.length)
    (hsrc : ∀ j u, news[j]? = some u → w.cell? ⟨gl, 0 + j, none⟩ = some u) (hel : EL T ks m (fun q => news[q]?)) (hm : 0 < m) (hL : n + m ≤ L) (hL2 : L ≤ 1000000000) (hb : (n + m) * bytes ≤ 140737488355328)
    (hK : ∀ A' c' w' T', ApT lo L T ks e w (n + m) w' A' c' T' → wpList P ops Q rest (a.put o.dst (.slice A' (n + m) c')) w') : wpList P ops Q (o :: rest) a w :=
  wpList_plain hgd fun _ hK' => wp_append_T s y hop E hs' hx' h hlo hs hk hl hsrc hel hm hL hL2 hb fun A' c' w' T' h2 => hK' _ _ (hK A' c' w' T' h2)
theorem step_append_T {ops : Array Oper} {o : Oper} {a : Act} {Q : Exit → Act → World → Prop} {KK : Act → World → Prop} {G : Prop} (hgd : o.guard = none) (s y : Operand)
    (hop : o.op = .call { callee := .builtin .append, args := #[s, y], argTypes := #[t, t] }) (E : ElemN P t e ks.length bytes z) (hs' : a.eval s = .slice A n c) (hx' : a.eval y = .slice (some ⟨gl, 0, none⟩) m d)
    (h : TS lo L T w) (hlo : lo ≤ w.heap.size) (hs : ST T ks e A n c) (hk : 0 < ks.length) (hl : news.length = m * ks.length)
    (hsrc : ∀ j u, news[j]? = some u → w.cell? ⟨gl, 0 + j, none⟩ = some u) (hel : EL T ks m (fun q => news[q]?)) (hm : 0 < m) (hL : n + m ≤ L) (hL2 : L ≤ 1000000000) (hb : (n + m) * bytes ≤ 140737488355328)
    (hK : ∀ A' c' w' T', ApT lo L T ks e w (n + m) w' A' c' T' → KK (a.put o.dst (.slice A' (n + m) c')) w') : if Region.wanted o (yielded ops a.tmps) = true then Oper.wp P o a w KK Q else G := by
  have hw : Region.wanted o (yielded ops a.tmps) = true := by simp [Region.wanted, hgd]
  rw [if_pos hw]
  exact wp_append_T s y hop E hs' hx' h hlo hs hk hl hsrc hel hm hL hL2 hb hK
end
end Go.Proofs.Ytofmfagdaiphaaa
