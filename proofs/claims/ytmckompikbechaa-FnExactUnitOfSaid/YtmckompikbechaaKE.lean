/- What the kinds' lists bear: an element changed in its own memory, stored anew, appended; new lists. -/
import Derived.Test.YtmckompikbechaaKD
namespace Go.Proofs.Ytmckompikbechaa
open Go.RowKit
set_option linter.unusedVariables false

theorem nodup_flat {L : List (List Nat)} : L.flatten.Nodup ↔ (∀ l ∈ L, l.Nodup) ∧ L.Pairwise (fun a b => ∀ x ∈ a, ∀ y ∈ b, x ≠ y) := List.pairwise_flatten
theorem nodup_flat_ne {L : List (List Nat)} (h : L.flatten.Nodup) {j k : Nat} {a b : List Nat} (hj : L[j]? = some a) (hk : L[k]? = some b) (hne : j ≠ k) : ∀ x ∈ a, x ∉ b := by
  have hp := (nodup_flat.1 h).2
  obtain ⟨hj1, rfl⟩ := List.getElem?_eq_some_iff.1 hj
  obtain ⟨hk1, rfl⟩ := List.getElem?_eq_some_iff.1 hk
  intro x hx hx'
  rcases Nat.lt_or_gt_of_ne hne with hlt | hlt
  · exact List.pairwise_iff_getElem.1 hp j k hj1 hk1 hlt x hx x hx' rfl
  · exact List.pairwise_iff_getElem.1 hp k j hk1 hj1 hlt x hx' x hx rfl
theorem nodup_flat_set {L : List (List Nat)} (h : L.flatten.Nodup) {k : Nat} {a b : List Nat} (hk : L[k]? = some a) (hb : b.Nodup) (hd : ∀ i ∈ b, i ∈ a ∨ i ∉ L.flatten) : (L.set k b).flatten.Nodup := by
  rw [nodup_flat]
  have h' := nodup_flat.1 h
  refine ⟨fun l hl => ?_, List.pairwise_iff_getElem.2 fun i j hi hj hij x hx y hy => ?_⟩
  · rcases List.mem_or_eq_of_mem_set hl with hl | rfl
    · exact h'.1 l hl
    · exact hb
  · rintro rfl
    simp only [List.length_set] at hi hj
    simp only [List.getElem_set] at hx hy
    by_cases hki : k = i
    · rw [if_pos hki] at hx
      rw [if_neg (by omega)] at hy
      have hyL : x ∈ L.flatten := List.mem_flatten.2 ⟨_, List.getElem_mem hj, hy⟩
      rcases hd x hx with hxa | hxn
      · exact nodup_flat_ne h hk (List.getElem?_eq_getElem hj) (by omega) x hxa hy
      · exact hxn hyL
    · rw [if_neg hki] at hx
      by_cases hkj : k = j
      · rw [if_pos hkj] at hy
        have hyL : x ∈ L.flatten := List.mem_flatten.2 ⟨_, List.getElem_mem hi, hx⟩
        rcases hd x hy with hxa | hxn
        · exact nodup_flat_ne h (List.getElem?_eq_getElem hi) hk (by omega) x hx hxa
        · exact hxn hyL
      · rw [if_neg hkj] at hy
        exact nodup_flat_ne h (List.getElem?_eq_getElem hi) (List.getElem?_eq_getElem hj) (by omega) x hx hy
theorem mem_flat_set {L : List (List Nat)} {k : Nat} {b : List Nat} {i : Nat} (h : i ∈ (L.set k b).flatten) : i ∈ L.flatten ∨ i ∈ b := by
  obtain ⟨l, hl, hi⟩ := List.mem_flatten.1 h
  rcases List.mem_or_eq_of_mem_set hl with hl | rfl
  · exact .inl (List.mem_flatten.2 ⟨l, hl, hi⟩)
  · exact .inr hi
theorem mem_of_opt {A : Option Addr} {k : Nat} (h : k ∈ (A.map (·.block)).toList) : ∃ p, A = some p ∧ p.block = k := by
  cases A with
  | none => simp at h
  | some p => simp at h; exact ⟨p, rfl, h.symm⟩

section
variable {α : Type} {K : Kd α} {e : TypeId} {w w' : World} {c : Nat} {A : Option Addr} {xs : List α} {fp : List Nat}

/-- The row of a world in which that block reads as before. -/
theorem ownsRow_keep {s n : Nat} {vs : List Value} (hr : w.ownsRow 0 e s (.slice A n c) n vs) (hk : ∀ p, A = some p → w'.heap[p.block]? = w.heap[p.block]?) : w'.ownsRow 0 e s (.slice A n c) n vs := by
  refine ⟨hr.1, ?_⟩
  rcases hr.2 with hh | ⟨g, cap, cur, h1, h2, h3, r⟩
  · exact .inl hh
  · refine .inr ⟨g, cap, cur, h1, h2, ?_, r⟩
    simp only [Value.slice.injEq] at h1
    have := hk _ h1.1
    rw [← h3]
    exact this

/-- Cells written one behind the other. -/
def setL : List Value → Nat → List Value → List Value
  | xs, _, [] => xs
  | xs, o, v :: t => setL (xs.set o v) (o + 1) t
theorem setL_eq (cs : List Value) : ∀ (xs : List Value) (o : Nat), o + cs.length ≤ xs.length → setL xs o cs = xs.take o ++ cs ++ xs.drop (o + cs.length) := by
  induction cs with
  | nil => intro xs o h; simp [setL]
  | cons v t ih =>
    intro xs o h
    simp only [List.length_cons] at h
    rw [setL, ih _ _ (by simp; omega)]
    have h1 : (xs.set o v).take (o + 1) = xs.take o ++ [v] := by
      rw [List.take_succ_eq_append_getElem (by simp; omega)]
      simp [List.take_set]
      rw [List.set_eq_of_length_le (by simp; omega)]
    have h2 : (xs.set o v).drop (o + 1 + t.length) = xs.drop (o + (t.length + 1)) := by
      rw [List.drop_set, if_pos (by omega)]
      congr 1
      omega
    rw [h1, h2]
    simp
theorem setL_flat {s k n : Nat} {css : List (List Value)} {cs' : List Value} (hall : ∀ cs ∈ css, cs.length = s) (hk : k < n) (hl : css.length = n) (hl' : cs'.length = s) : setL css.flatten (k * s) cs' = (css.set k cs').flatten := by
  have hlen : ∀ L : List (List Value), (∀ cs ∈ L, cs.length = s) → L.flatten.length = L.length * s := by
    intro L hL
    induction L with
    | nil => simp
    | cons d t ih => simp [hL d (by simp), ih (fun x hx => hL x (by simp [hx])), Nat.add_mul]; omega
  have hk' : k < css.length := by omega
  have hdec : css = css.take k ++ css[k] :: css.drop (k + 1) := by rw [← List.drop_eq_getElem_cons hk', List.take_append_drop]
  have h1 : (css.take k).flatten.length = k * s := by rw [hlen _ (fun x hx => hall x (List.mem_of_mem_take hx)), List.length_take, Nat.min_eq_left (by omega)]
  have h2 : css[k].length = s := hall _ (List.getElem_mem hk')
  have hfl : css.flatten = (css.take k).flatten ++ (css[k] ++ (css.drop (k + 1)).flatten) := by
    have := congrArg List.flatten hdec
    rw [List.flatten_append, List.flatten_cons] at this
    exact this
  rw [setL_eq _ _ _ (by rw [hlen _ hall, hl']; have : (k + 1) * s ≤ css.length * s := Nat.mul_le_mul_right _ hk'; rw [Nat.add_mul] at this; omega)]
  rw [hfl, List.take_left' h1, hl', List.drop_append, h1, List.drop_eq_nil_of_le (by rw [h1]; omega)]
  rw [show k * s + s - k * s = s by omega, List.drop_left' h2]
  rw [List.set_eq_take_append_cons_drop, if_pos hk']
  simp
theorem heap_setCells_far {g : Nat} (cs : List Value) : ∀ (o : Nat) (w : World) {i : Nat}, i ≠ g → (w.setCells g o cs).heap[i]? = w.heap[i]? := by
  induction cs with
  | nil => intro o w i hi; rfl
  | cons v t ih =>
    intro o w i hi
    show ((w.setCell ⟨g, o, none⟩ v).setCells g (o + 1) t).heap[i]? = _
    rw [ih _ _ hi, Below.heap_setCell _ _ _ _ hi]
theorem size_setCells {g : Nat} (cs : List Value) : ∀ (o : Nat) (w : World), (w.setCells g o cs).heap.size = w.heap.size := by
  induction cs with
  | nil => intro o w; rfl
  | cons v t ih =>
    intro o w
    show ((w.setCell ⟨g, o, none⟩ v).setCells g (o + 1) t).heap.size = _
    rw [ih]
    simp [World.setCell]
theorem ownsRow_setCells {s n g : Nat} (cs : List Value) : ∀ (o : Nat) {w : World} {vs : List Value}, w.ownsRow 0 e s (.slice (some ⟨g, 0, none⟩) n c) n vs → (w.setCells g o cs).ownsRow 0 e s (.slice (some ⟨g, 0, none⟩) n c) n (setL vs o cs) := by
  induction cs with
  | nil => intro o w vs h; exact h
  | cons v t ih =>
    intro o w vs h
    exact ih (o + 1) (World.ownsRow.stored h o v).1

/-- The element k with its cells and its memory. -/
structure At (K : Kd α) (e : TypeId) (w : World) (A : Option Addr) (c : Nat) (xs : List α) (fp : List Nat) (k : Nat) (x : α) (g : Nat) (cs : List Value) (f : List Nat) : Prop where
  addr : A = some ⟨g, 0, none⟩
  own : K.own w cs x f
  sub : ∀ i ∈ f, i ∈ fp ∧ i ≠ g
  mem : g ∈ fp
  lt : g < w.heap.size
  cell : ∀ j u, cs[j]? = some u → w.cell? ⟨g, k * K.size + j, none⟩ = some u
  free : ∀ j, w.frozen? ⟨g, j, none⟩ = false
  inplace : ∀ (w' : World) (x' : α), K.own w' cs x' f → TchF f w w' → LO K e w' A c (xs.set k x') fp
  store : ∀ (w' : World) (cs' : List Value) (x' : α) (f' : List Nat), K.own w' cs' x' f' → TchF f w w' → (∀ i ∈ f', i ∈ f ∨ i ∉ fp) → ∃ fp', LO K e (w'.setCells g (k * K.size) cs') A c (xs.set k x') fp' ∧ ∀ i ∈ fp', i ∈ fp ∨ i ∈ f'

theorem LO.at_ (h : LO K e w A c xs fp) (k : Nat) (x : α) (hx : xs[k]? = some x) : ∃ g cs f, At K e w A c xs fp k x g cs f := by
  obtain ⟨css, fps, hr, hl1, hl2, hown, hfp, hnd⟩ := id h
  have hk : k < xs.length := (List.getElem?_eq_some_iff.1 hx).1
  have hck : css[k]? = some css[k] := List.getElem?_eq_getElem (by omega)
  have hfk : fps[k]? = some fps[k] := List.getElem?_eq_getElem (by omega)
  have hall : ∀ cs ∈ css, cs.length = K.size := by
    intro cs hcs
    obtain ⟨i, hi, rfl⟩ := List.getElem_of_mem hcs
    exact K.rd_len (K.own_rd (hown i _ _ _ (List.getElem?_eq_getElem hi) (List.getElem?_eq_getElem (by omega)) (List.getElem?_eq_getElem (by omega))))
  have hA : ∃ g, A = some ⟨g, 0, none⟩ := by
    rcases hr.2 with ⟨_, h2⟩ | ⟨g, cap, cur, h1, _⟩
    · omega
    · simp only [Value.slice.injEq] at h1; exact ⟨g, h1.1⟩
  obtain ⟨g, rfl⟩ := hA
  have hfp' : fp = g :: fps.flatten := by rw [hfp]; rfl
  have hnd2 : g ∉ fps.flatten ∧ fps.flatten.Nodup := by rw [hfp'] at hnd; exact List.nodup_cons.1 hnd
  have hg : g < w.heap.size := h.lt g (by rw [hfp']; simp)
  have hsub : ∀ i ∈ fps[k], i ∈ fp ∧ i ≠ g := by
    intro i hi
    have hm : i ∈ fps.flatten := List.mem_flatten.2 ⟨_, List.getElem_mem (by omega), hi⟩
    exact ⟨by rw [hfp']; simp [hm], fun e => hnd2.1 (e ▸ hm)⟩
  have hrow : ∀ w' : World, TchF fps[k] w w' → w'.heap[g]? = w.heap[g]? := fun w' ht => ht.block g hg (fun hm => (hsub g hm).2 rfl)
  have hoth : ∀ (w' : World), TchF fps[k] w w' → ∀ (j : Nat) (cs : List Value) (y : α) (f : List Nat), j ≠ k → css[j]? = some cs → xs[j]? = some y → fps[j]? = some f → K.own w' cs y f := by
    intro w' ht j cs y f hjk h1 h2 h3
    exact K.own_tchF (hown j cs y f h1 h2 h3) ht (nodup_flat_ne hnd2.2 h3 hfk hjk)
  refine ⟨g, css[k], fps[k], rfl, hown k _ x _ hck hx hfk, hsub, by rw [hfp']; simp, hg, ?_, ?_, ?_, ?_⟩
  · intro j u hu
    have hj : j < K.size := by
      have := (List.getElem?_eq_some_iff.1 hu).1
      rw [hall _ (List.getElem_mem (by omega))] at this
      exact this
    have hlt : k * K.size + j < xs.length * K.size := by
      have : (k + 1) * K.size ≤ xs.length * K.size := Nat.mul_le_mul_right _ hk
      rw [Nat.add_mul] at this
      omega
    rw [World.ownsRow.cellAt hr (k * K.size + j) hlt, flatten_at hall k j _ hck hj, hu]
  · exact fun j => World.ownsRow.frozenAt hr j
  · intro w' x' ho' ht
    refine ⟨css, fps, ?_, by simpa using hl1, by simpa using hl2, ?_, hfp, hnd⟩
    · rw [List.length_set]
      exact ownsRow_keep hr (fun p hp => by injection hp with hp; subst hp; exact hrow w' ht)
    · intro j cs y f h1 h2 h3
      rw [List.getElem?_set] at h2
      by_cases hkj : k = j
      · subst hkj
        rw [if_pos rfl, if_pos hk] at h2
        rw [hck] at h1
        rw [hfk] at h3
        injection h1 with h1
        injection h2 with h2
        injection h3 with h3
        subst h1 h2 h3
        exact ho'
      · rw [if_neg hkj] at h2
        exact hoth w' ht j cs y f (Ne.symm hkj) h1 h2 h3
  · intro w' cs' x' f' ho' ht hd
    have hgf' : g ∉ f' := fun hm => by
      rcases hd g hm with hh | hh
      · exact (hsub g hh).2 rfl
      · exact hh (by rw [hfp']; simp)
    have hr' : w'.ownsRow 0 e K.size (.slice (some ⟨g, 0, none⟩) xs.length c) xs.length css.flatten := ownsRow_keep hr (fun p hp => by injection hp with hp; subst hp; exact hrow w' ht)
    have hl' : cs'.length = K.size := K.rd_len (K.own_rd ho')
    have hst := ownsRow_setCells cs' (k * K.size) hr'
    rw [setL_flat hall hk hl1 hl'] at hst
    have hblk : ∀ i, i ≠ g → (w'.setCells g (k * K.size) cs').heap[i]? = w'.heap[i]? := fun i hi => heap_setCells_far cs' (k * K.size) w' hi
    refine ⟨g :: (fps.set k f').flatten, ⟨css.set k cs', fps.set k f', by rw [List.length_set]; exact hst, by simpa using hl1, by simpa using hl2, ?_, rfl, ?_⟩, ?_⟩
    · intro j cs y f h1 h2 h3
      rw [List.getElem?_set] at h1 h2 h3
      by_cases hkj : k = j
      · subst hkj
        rw [if_pos rfl, if_pos (by omega)] at h1 h2 h3
        injection h1 with h1
        injection h2 with h2
        injection h3 with h3
        subst h1 h2 h3
        exact K.own_keep ho' (fun i hi => hblk i (fun e => hgf' (e ▸ hi)))
      · rw [if_neg hkj] at h1 h2 h3
        refine K.own_keep (hoth w' ht j cs y f (Ne.symm hkj) h1 h2 h3) (fun i hi => hblk i ?_)
        rintro rfl
        exact hnd2.1 (List.mem_flatten.2 ⟨_, List.mem_of_getElem? h3, hi⟩)
    · rw [List.nodup_cons]
      refine ⟨fun hm => ?_, nodup_flat_set hnd2.2 hfk (K.own_nodup ho') (fun i hi => ?_)⟩
      · rcases mem_flat_set hm with hh | hh
        · exact hnd2.1 hh
        · exact hgf' hh
      · rcases hd i hi with hh | hh
        · exact .inl hh
        · exact .inr (fun hm => hh (by rw [hfp']; simp [hm]))
    · intro i hi
      rcases List.mem_cons.1 hi with rfl | hi
      · exact .inl (by rw [hfp']; simp)
      · rcases mem_flat_set hi with hh | hh
        · exact .inl (by rw [hfp']; simp [hh])
        · exact .inr hh

/-- What the tables say of a slice type t with elements of type e. -/
def ElemN (P : Program) (t e : TypeId) (size bytes : Nat) (z : Value) : Prop :=
  P.underlying t = some (.slice e) ∧ ∃ i, P.info? e = some i ∧ i.zero = some z ∧ i.size = size ∧ i.bytes = bytes ∧ z.cells.size = size
theorem ElemN.mk {P : Program} {t e : TypeId} {z : Value} {size bytes : Nat} (h : P.underlying t = some (.slice e)) (h' : (P.info? e).map (fun i => (i.zero, i.size, i.bytes)) = some (some z, size, bytes)) (hz : z.cells.size = size) : ElemN P t e size bytes z := by
  obtain ⟨i, hi, h0, h1, h2⟩ := info_parts h'
  exact ⟨h, i, hi, h0, h1, h2, hz⟩

/-- What an append of one element leaves. -/
structure ApL (K : Kd α) (e : TypeId) (w : World) (fp f : List Nat) (w' : World) (A' : Option Addr) (c' : Nat) (xs' : List α) (fp' : List Nat) : Prop where
  own : LO K e w' A' c' xs' fp'
  sub : ∀ i ∈ fp', i ∈ fp ∨ i ∈ f ∨ i = w.heap.size
  tch : TchF fp w w'

section
variable {P : Program} {t ty : TypeId} {bytes : Nat} {z : Value}
theorem run_append_LO (E : ElemN P t e K.size bytes z) (hs0 : 0 < K.size) (h : LO K e w A c xs fp) {cs : List Value} {x : α} {f : List Nat} (ho : K.own w cs x f) (hd : ∀ i ∈ f, i ∉ fp)
    {gl : Nat} (hsrc : ∀ j u, cs[j]? = some u → w.cell? ⟨gl, 0 + j, none⟩ = some u) (d : Nat) (hb : (xs.length + 1) * bytes ≤ 140737488355328) (hm : xs.length + 1 ≤ 4611686018427387904) :
    ∃ A' c' w' fp', (Builtin.append_ #[t, t] ty #[.slice A xs.length c, .slice (some ⟨gl, 0, none⟩) 1 d]).run P w = .ok (.slice A' (xs.length + 1) c') w' ∧ ApL K e w fp f w' A' c' (xs ++ [x]) fp' := by
  obtain ⟨css, fps, hr, hl1, hl2, hown, hfp, hnd⟩ := id h
  obtain ⟨ht, i, hi, hz, hz1, hz2, hz3⟩ := E
  have hcl : cs.length = K.size := K.rd_len (K.own_rd ho)
  have hob : ∀ (A : Option Addr) (n c : Nat), (Value.slice A n c).ownBlock = A.map (·.block) := fun A n c => by cases A <;> rfl
  obtain ⟨v', w', hrun, h2, h3, _, h5⟩ := run_append_own_at (P := P) w 0 t ty e i z K.size bytes ht hi hz hz1 hz2 hz3 hs0 _ xs.length css.flatten hr ⟨gl, 0, none⟩ 1 d cs (by rw [hcl]; omega)
    (fun j u hu => by rw [add_none]; exact hsrc j u hu) (K.rd_one (K.own_rd ho)) (by unfold maxLen; omega) hb (Nat.zero_le _)
  have hv : ∃ A' c', v' = .slice A' (xs.length + 1) c' := by
    rcases h2.2 with ⟨rfl, h0⟩ | ⟨g, cap, cur, rfl, _⟩
    · omega
    · exact ⟨_, _, rfl⟩
  obtain ⟨A', c', rfl⟩ := hv
  rw [hob] at h3
  rw [hob, hob] at h5
  have hA' : ∃ p, A' = some p := by
    rcases h2.2 with ⟨hh, h0⟩ | ⟨g, cap, cur, hh, _⟩
    · omega
    · simp only [Value.slice.injEq] at hh; exact ⟨_, hh.1⟩
  obtain ⟨p', rfl⟩ := hA'
  have hin : ∀ i ∈ fps.flatten, i ∈ fp := fun i hi => by rw [hfp]; simp [hi]
  have hlt := h.lt
  have hkeep : ∀ i, i < w.heap.size → (∀ p, A = some p → i ≠ p.block) → w'.heap[i]? = w.heap[i]? := by
    intro i hi hne
    refine h3.block i hi (fun hh => ?_)
    cases A with
    | none => simp at hh
    | some p => simp at hh; exact hne p rfl hh
  have hnd2 : (∀ p, A = some p → p.block ∉ fps.flatten) ∧ fps.flatten.Nodup := by
    rw [hfp] at hnd
    cases A with
    | none => exact ⟨by simp, by simpa using hnd⟩
    | some p => simp at hnd; exact ⟨fun q hq => by injection hq with hq; subst hq; simpa using hnd.1, hnd.2⟩
  have hpf : ∀ p, A = some p → p.block ∉ f := fun p hp hm => hd _ hm (by rw [hfp, hp]; simp)
  have hp'1 : p'.block ∉ fps.flatten ∧ p'.block ∉ f := by
    rcases h5 with h5 | h5
    · cases A with
      | none => simp at h5
      | some p => simp at h5; rw [h5]; exact ⟨hnd2.1 p rfl, hpf p rfl⟩
    · simp at h5
      exact ⟨fun hm => by have := hlt _ (hin _ hm); omega, fun hm => by have := K.own_lt ho _ hm; omega⟩
  refine ⟨some p', c', w', p'.block :: (fps ++ [f]).flatten, hrun, ⟨⟨css ++ [cs], fps ++ [f], ?_, by simp [hl1], by simp [hl2], ?_, rfl, ?_⟩, ?_, ?_⟩⟩
  · simpa using h2
  · intro j cs' y f' h1' h2' h3'
    by_cases hj : j < xs.length
    · rw [List.getElem?_append_left (by omega)] at h1' h2' h3'
      have ho' := hown j cs' y f' h1' h2' h3'
      refine K.own_keep ho' (fun i hi => hkeep i (K.own_lt ho' i hi) (fun p hp e => ?_))
      exact hnd2.1 p hp (e ▸ List.mem_flatten.2 ⟨_, List.mem_of_getElem? h3', hi⟩)
    · have hj' : j = xs.length := by
        have := (List.getElem?_eq_some_iff.1 h2').1
        simp at this
        omega
      subst hj'
      rw [List.getElem?_append_right (by omega)] at h1' h2' h3'
      simp [hl1] at h1'
      simp at h2'
      simp [hl2] at h3'
      subst h1' h2' h3'
      exact K.own_keep ho (fun i hi => hkeep i (K.own_lt ho i hi) (fun p hp e => hpf p hp (e ▸ hi)))
  · rw [List.nodup_cons]
    refine ⟨by simpa using hp'1, ?_⟩
    rw [List.flatten_append, List.nodup_append]
    refine ⟨hnd2.2, by simpa using K.own_nodup ho, ?_⟩
    intro a ha b hb e
    simp at hb
    subst e
    exact hd a hb (hin a ha)
  · intro i hi
    rcases List.mem_cons.1 hi with rfl | hi
    · rcases h5 with h5 | h5
      · cases A with
        | none => simp at h5
        | some p => simp at h5; exact .inl (by rw [hfp, h5]; simp)
      · simp at h5; exact .inr (.inr h5)
    · rw [List.flatten_append, List.mem_append] at hi
      rcases hi with hi | hi
      · exact .inl (hin i hi)
      · exact .inr (.inl (by simpa using hi))
  · refine TchF.of_grown h3 (fun p hp => ?_)
    rw [hfp, hp]; simp

theorem wp_append_LO {o : Oper} {a : Act} {Q : Exit → Act → World → Prop} {KK : Act → World → Prop} (s y : Operand)
    (hop : o.op = .call { callee := .builtin .append, args := #[s, y], argTypes := #[t, t] }) (E : ElemN P t e K.size bytes z) (hs0 : 0 < K.size)
    {gl d n : Nat} (hn : n = xs.length) (hs' : a.eval s = .slice A n c) (hx' : a.eval y = .slice (some ⟨gl, 0, none⟩) 1 d) (h : LO K e w A c xs fp) {cs : List Value} {x : α} {f : List Nat} (ho : K.own w cs x f) (hd : ∀ i ∈ f, i ∉ fp)
    (hsrc : ∀ j u, cs[j]? = some u → w.cell? ⟨gl, 0 + j, none⟩ = some u) (hb : (n + 1) * bytes ≤ 140737488355328) (hm : n + 1 ≤ 4611686018427387904)
    (hK : ∀ A' c' w' fp', ApL K e w fp f w' A' c' (xs ++ [x]) fp' → KK (a.put o.dst (.slice A' (n + 1) c')) w') : o.wp P a w KK Q := by
  subst hn
  obtain ⟨A', c', w', fp', hrun, hap⟩ := run_append_LO (ty := o.type) E hs0 h ho hd hsrc d hb hm
  unfold Oper.wp execOp
  simp only [hop, resolve, invoke, builtin, Sem.run_bind, Sem.run_pure, Result.andThen_ok, List.map_toArray, List.map_cons, List.map_nil, hs', hx', hrun]
  exact hK A' c' w' fp' hap
theorem wpList_append_LO {ops : Array Oper} {rest : List Oper} {o : Oper} {a : Act} {Q : Exit → Act → World → Prop} (hgd : o.guard = none) (s y : Operand)
    (hop : o.op = .call { callee := .builtin .append, args := #[s, y], argTypes := #[t, t] }) (E : ElemN P t e K.size bytes z) (hs0 : 0 < K.size)
    {gl d n : Nat} (hn : n = xs.length) (hs' : a.eval s = .slice A n c) (hx' : a.eval y = .slice (some ⟨gl, 0, none⟩) 1 d) (h : LO K e w A c xs fp) {cs : List Value} {x : α} {f : List Nat} (ho : K.own w cs x f) (hd : ∀ i ∈ f, i ∉ fp)
    (hsrc : ∀ j u, cs[j]? = some u → w.cell? ⟨gl, 0 + j, none⟩ = some u) (hb : (n + 1) * bytes ≤ 140737488355328) (hm : n + 1 ≤ 4611686018427387904)
    (hK : ∀ A' c' w' fp', ApL K e w fp f w' A' c' (xs ++ [x]) fp' → wpList P ops Q rest (a.put o.dst (.slice A' (n + 1) c')) w') : wpList P ops Q (o :: rest) a w :=
  wpList_plain hgd fun _ hK' => wp_append_LO s y hop E hs0 hn hs' hx' h ho hd hsrc hb hm fun A' c' w' fp' h2 => hK' _ _ (hK A' c' w' fp' h2)
end

/-- A list newly made: n elements, each the zero. -/
theorem LO.made {n g : Nat} {zc : List Value} {zero : α} (hr : w.ownsRow 0 e K.size (.slice (some ⟨g, 0, none⟩) n n) n (List.replicate n zc).flatten) (hz : ∀ w, K.own w zc zero []) : LO K e w (some ⟨g, 0, none⟩) n (List.replicate n zero) [g] := by
  refine ⟨List.replicate n zc, List.replicate n [], by simpa using hr, by simp, by simp, ?_, ?_, by simp⟩
  · intro k cs x f h1 h2 h3
    have h1 := List.mem_of_getElem? h1
    have h2 := List.mem_of_getElem? h2
    have h3 := List.mem_of_getElem? h3
    rw [List.eq_of_mem_replicate h1, List.eq_of_mem_replicate h2, List.eq_of_mem_replicate h3]
    exact hz w
  · have : (List.replicate n ([] : List Nat)).flatten = [] := by simp
    rw [this]; rfl
end
end Go.Proofs.Ytmckompikbechaa
