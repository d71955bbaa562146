/- Kinds of data made of kinds: numbers, truth values, strings, lists, pairs of fields. Of no program but for the world's words. -/
import Derived.Test.YtmckompikbechaaKinds
namespace Go.Proofs.Ytmckompikbechaa
open Go.RowKit
set_option linter.unusedVariables false

/-- Of what was there only the blocks fp may have turned. -/
structure TchF (fp : List Nat) (w w' : World) : Prop where
  os : w'.os = w.os
  tape : w'.tape = w.tape
  output : w'.output = w.output
  size : w.heap.size ≤ w'.heap.size
  block : ∀ k, k < w.heap.size → k ∉ fp → w'.heap[k]? = w.heap[k]?
theorem TchF.of_ext {fp : List Nat} {w w' : World} (h : Ext w w') : TchF fp w w' := ⟨h.os, h.tape, h.output, h.size, fun k hk _ => h.block k hk⟩
theorem TchF.refl (fp : List Nat) (w : World) : TchF fp w w := TchF.of_ext (Ext.refl w)
theorem TchF.trans {fp : List Nat} {a b c : World} (h : TchF fp a b) (k : TchF fp b c) : TchF fp a c :=
  ⟨k.os.trans h.os, k.tape.trans h.tape, k.output.trans h.output, Nat.le_trans h.size k.size, fun i hi hr => (k.block i (Nat.lt_of_lt_of_le hi h.size) hr).trans (h.block i hi hr)⟩
theorem TchF.more {fp fp' : List Nat} {w w' : World} (h : TchF fp w w') (hs : ∀ k ∈ fp, k ∈ fp') : TchF fp' w w' :=
  ⟨h.os, h.tape, h.output, h.size, fun k hk hr => h.block k hk (fun hh => hr (hs k hh))⟩
theorem TchF.tch {fp : List Nat} {lo hi : Nat} {w w' : World} (h : TchF fp w w') (hr : ∀ k ∈ fp, lo ≤ k ∧ k < hi) : Tch lo hi w w' :=
  ⟨h.os, h.tape, h.output, h.size, fun k hk hh => h.block k hk (fun hm => by have := hr k hm; omega)⟩
theorem TchF.of_grown {w w' : World} {A : Option Addr} {fp : List Nat} (h : w.grownBy w' (A.map (·.block))) (hs : ∀ p, A = some p → p.block ∈ fp) : TchF fp w w' :=
  ⟨h.os, h.tape, h.output, h.size, fun k hk hr => h.block k hk (by
    intro e
    cases A with
    | none => simp at e
    | some p => simp at e; subst e; exact hr (hs p rfl))⟩
theorem Ext.tchF {fp : List Nat} {a w w' : World} (h : Ext a w) (k : TchF fp w w') (hlo : ∀ i ∈ fp, a.heap.size ≤ i) : Ext a w' :=
  Below.trans h ⟨k.os, k.tape, k.output, k.size, fun i hi => k.block i (Nat.lt_of_lt_of_le hi h.size) (fun hm => by have := hlo i hm; omega)⟩

structure Kd (α : Type) where
  size : Nat
  val : List Value → Value
  rd : World → Nat → List Value → α → Prop
  own : World → List Value → α → List Nat → Prop
  mrk : Int → α → α
  cnt : α → Nat
  wt : α → Nat
  rd_len : ∀ {w : World} {B : Nat} {vs : List Value} {a : α}, rd w B vs a → vs.length = size
  rd_one : ∀ {w : World} {B : Nat} {vs : List Value} {a : α}, rd w B vs a → ∀ v ∈ vs, v.oneCell' = true
  rd_keep : ∀ {w w' : World} {B : Nat} {vs : List Value} {a : α}, rd w B vs a → (∀ p : Addr, p.block < B → w'.cell? p = w.cell? p) → rd w' B vs a
  rd_more : ∀ {w : World} {B B' : Nat} {vs : List Value} {a : α}, rd w B vs a → B ≤ B' → rd w B' vs a
  own_rd : ∀ {w : World} {vs : List Value} {a : α} {fp : List Nat}, own w vs a fp → rd w w.heap.size vs a
  own_keep : ∀ {w w' : World} {vs : List Value} {a : α} {fp : List Nat}, own w vs a fp → (∀ k ∈ fp, w'.heap[k]? = w.heap[k]?) → own w' vs a fp
  own_lt : ∀ {w : World} {vs : List Value} {a : α} {fp : List Nat}, own w vs a fp → ∀ k ∈ fp, k < w.heap.size
  own_nodup : ∀ {w : World} {vs : List Value} {a : α} {fp : List Nat}, own w vs a fp → fp.Nodup

section
variable {α : Type} {K : Kd α} {w w' : World} {B : Nat} {vs : List Value} {a : α} {fp fp' : List Nat}
theorem Kd.rd_ext (K : Kd α) (h : K.rd w B vs a) (k : Ext w w') (hB : B ≤ w.heap.size) : K.rd w' B vs a := K.rd_keep h fun p hp => k.cell (by omega)
theorem Kd.own_ext (K : Kd α) (h : K.own w vs a fp) (k : Ext w w') : K.own w' vs a fp := K.own_keep h fun i hi => k.block i (K.own_lt h i hi)
theorem Kd.own_tchF (K : Kd α) (h : K.own w vs a fp) (k : TchF fp' w w') (hd : ∀ i ∈ fp, i ∉ fp') : K.own w' vs a fp := K.own_keep h fun i hi => k.block i (K.own_lt h i hi) (hd i hi)
end

/-! ### One cell -/
def kdInt : Kd Int where
  size := 1
  val vs := vs.headD undef
  rd w B vs a := vs = [.int .i64 a]
  own w vs a fp := vs = [.int .i64 a] ∧ fp = []
  mrk k _ := k
  cnt _ := 1
  wt _ := 0
  rd_len := by rintro _ _ _ _ rfl; rfl
  rd_one := by rintro _ _ _ _ rfl; simp [Value.oneCell']
  rd_keep := fun h _ => h
  rd_more := fun h _ => h
  own_rd := fun h => h.1
  own_keep := fun h _ => h
  own_lt := by rintro _ _ _ _ ⟨_, rfl⟩; simp
  own_nodup := by rintro _ _ _ _ ⟨_, rfl⟩; simp
/-- A number that the marks leave alone. -/
def kdNum : Kd Int := { kdInt with mrk := fun _ a => a, cnt := fun _ => 0 }
def kdBool : Kd Bool where
  size := 1
  val vs := vs.headD undef
  rd w B vs a := vs = [.bool a]
  own w vs a fp := vs = [.bool a] ∧ fp = []
  mrk _ a := a
  cnt _ := 0
  wt _ := 0
  rd_len := by rintro _ _ _ _ rfl; rfl
  rd_one := by rintro _ _ _ _ rfl; simp [Value.oneCell']
  rd_keep := fun h _ => h
  rd_more := fun h _ => h
  own_rd := fun h => h.1
  own_keep := fun h _ => h
  own_lt := by rintro _ _ _ _ ⟨_, rfl⟩; simp
  own_nodup := by rintro _ _ _ _ ⟨_, rfl⟩; simp
/-- A text, as the list of its bytes. -/
def bs (l : List UInt8) : ByteArray := ⟨l.toArray⟩
def kdStr (mk : Int → List UInt8) : Kd (List UInt8) where
  size := 1
  val vs := vs.headD undef
  rd w B vs a := vs = [.string (bs a)] ∧ a.length ≤ 9223372036854775807
  own w vs a fp := (vs = [.string (bs a)] ∧ a.length ≤ 9223372036854775807) ∧ fp = []
  mrk k _ := mk k
  cnt _ := 1
  wt a := a.length
  rd_len := by rintro _ _ _ _ ⟨rfl, _⟩; rfl
  rd_one := by rintro _ _ _ _ ⟨rfl, _⟩; simp [Value.oneCell']
  rd_keep := fun h _ => h
  rd_more := fun h _ => h
  own_rd := fun h => h.1
  own_keep := fun h _ => h
  own_lt := by rintro _ _ _ _ ⟨_, rfl⟩; simp
  own_nodup := by rintro _ _ _ _ ⟨_, rfl⟩; simp

/-! ### Two, one behind the other: the fields of a struct -/
def kdPair {α β : Type} (K : Kd α) (L : Kd β) : Kd (α × β) where
  size := K.size + L.size
  val vs := .agg vs.toArray
  rd w B vs a := ∃ v1 v2, vs = v1 ++ v2 ∧ K.rd w B v1 a.1 ∧ L.rd w B v2 a.2
  own w vs a fp := ∃ v1 v2 f1 f2, vs = v1 ++ v2 ∧ K.own w v1 a.1 f1 ∧ L.own w v2 a.2 f2 ∧ fp = f1 ++ f2 ∧ fp.Nodup
  mrk k a := (K.mrk k a.1, L.mrk (k + K.cnt a.1) a.2)
  cnt a := K.cnt a.1 + L.cnt a.2
  wt a := K.wt a.1 + L.wt a.2
  rd_len := by rintro _ _ _ _ ⟨v1, v2, rfl, h1, h2⟩; simp [K.rd_len h1, L.rd_len h2]
  rd_one := by
    rintro _ _ _ _ ⟨v1, v2, rfl, h1, h2⟩ v hv
    rcases List.mem_append.1 hv with h | h
    · exact K.rd_one h1 v h
    · exact L.rd_one h2 v h
  rd_keep := by rintro _ _ _ _ _ ⟨v1, v2, rfl, h1, h2⟩ hk; exact ⟨v1, v2, rfl, K.rd_keep h1 hk, L.rd_keep h2 hk⟩
  rd_more := by rintro _ _ _ _ _ ⟨v1, v2, rfl, h1, h2⟩ hk; exact ⟨v1, v2, rfl, K.rd_more h1 hk, L.rd_more h2 hk⟩
  own_rd := by rintro _ _ _ _ ⟨v1, v2, f1, f2, rfl, h1, h2, _, _⟩; exact ⟨v1, v2, rfl, K.own_rd h1, L.own_rd h2⟩
  own_keep := by
    rintro _ _ _ _ _ ⟨v1, v2, f1, f2, rfl, h1, h2, rfl, hn⟩ hk
    exact ⟨v1, v2, f1, f2, rfl, K.own_keep h1 (fun i hi => hk i (by simp [hi])), L.own_keep h2 (fun i hi => hk i (by simp [hi])), rfl, hn⟩
  own_lt := by
    rintro _ _ _ _ ⟨v1, v2, f1, f2, rfl, h1, h2, rfl, _⟩ k hk
    rcases List.mem_append.1 hk with h | h
    · exact K.own_lt h1 k h
    · exact L.own_lt h2 k h
  own_nodup := by rintro _ _ _ _ ⟨_, _, _, _, _, _, _, rfl, hn⟩; exact hn

/-! ### Lists -/
section
variable {α : Type} (K : Kd α)
/-- The slice with address A and capacity c reads as the elements xs. -/
def LR (w : World) (B : Nat) (A : Option Addr) (c : Nat) (xs : List α) : Prop :=
  xs.length ≤ c ∧ c ≤ 9223372036854775807 ∧
  ∀ (k : Nat) (x : α), xs[k]? = some x → ∃ (b off : Nat) (cs : List Value), A = some ⟨b, off, none⟩ ∧ b < B ∧ K.rd w B cs x ∧ ∀ j u, cs[j]? = some u → w.cell? ⟨b, off + (k * K.size + j), none⟩ = some u
/-- The call's own list: a row of its own, and each element an object of its own. -/
def LO (e : TypeId) (w : World) (A : Option Addr) (c : Nat) (xs : List α) (fp : List Nat) : Prop :=
  ∃ (css : List (List Value)) (fps : List (List Nat)), w.ownsRow 0 e K.size (.slice A xs.length c) xs.length css.flatten ∧ css.length = xs.length ∧ fps.length = xs.length ∧
    (∀ (k : Nat) (cs : List Value) (x : α) (f : List Nat), css[k]? = some cs → xs[k]? = some x → fps[k]? = some f → K.own w cs x f) ∧ fp = (A.map (·.block)).toList ++ fps.flatten ∧ fp.Nodup
def mrkL : Int → List α → List α
  | _, [] => []
  | k, x :: xs => K.mrk k x :: mrkL (k + K.cnt x) xs
def cntL : List α → Nat
  | [] => 0
  | x :: xs => K.cnt x + cntL xs
def wtL : List α → Nat
  | [] => 0
  | x :: xs => 1 + K.wt x + wtL xs
end

theorem flatten_at {s : Nat} {css : List (List Value)} (h : ∀ cs ∈ css, cs.length = s) (k j : Nat) (cs : List Value) (hk : css[k]? = some cs) (hj : j < s) : css.flatten[k * s + j]? = cs[j]? := by
  induction css generalizing k with
  | nil => simp at hk
  | cons c t ih =>
    have hc : c.length = s := h c (by simp)
    cases k with
    | zero =>
      simp at hk
      subst hk
      simp [List.getElem?_append, hc, hj]
    | succ k =>
      simp at hk
      have := ih (fun d hd => h d (by simp [hd])) k hk
      rw [List.flatten_cons, List.getElem?_append_right (by rw [hc, Nat.add_mul]; omega), hc, ← this]
      congr 1
      rw [Nat.add_mul]
      omega

section
variable {α : Type} {K : Kd α} {e : TypeId} {w w' : World} {B c : Nat} {A : Option Addr} {xs : List α} {fp : List Nat}
theorem LR.keep (h : LR K w B A c xs) (hk : ∀ p : Addr, p.block < B → w'.cell? p = w.cell? p) : LR K w' B A c xs := by
  refine ⟨h.1, h.2.1, fun k x hx => ?_⟩
  obtain ⟨b, off, cs, e, hb, hr, hc⟩ := h.2.2 k x hx
  exact ⟨b, off, cs, e, hb, K.rd_keep hr hk, fun j u hu => (hk _ hb).trans (hc j u hu)⟩
theorem LR.more {B' : Nat} (h : LR K w B A c xs) (hB : B ≤ B') : LR K w B' A c xs := by
  refine ⟨h.1, h.2.1, fun k x hx => ?_⟩
  obtain ⟨b, off, cs, e, hb, hr, hc⟩ := h.2.2 k x hx
  exact ⟨b, off, cs, e, by omega, K.rd_more hr hB, hc⟩
theorem LR.ext (h : LR K w B A c xs) (k : Ext w w') (hB : B ≤ w.heap.size) : LR K w' B A c xs := h.keep fun p hp => k.cell (by omega)
theorem LO.cap (h : LO K e w A c xs fp) : xs.length ≤ c ∧ c ≤ 9223372036854775807 := by
  obtain ⟨css, fps, hr, _⟩ := h
  rcases hr.2 with ⟨h1, h2⟩ | ⟨g, cap, cur, h1, h2, h3, h4, h5, _⟩
  · simp only [Value.slice.injEq] at h1
    omega
  · simp only [Value.slice.injEq] at h1
    unfold maxLen at h5
    omega
theorem LO.own_at (h : LO K e w A c xs fp) (k : Nat) (x : α) (hx : xs[k]? = some x) : ∃ g cs f, A = some ⟨g, 0, none⟩ ∧ g < w.heap.size ∧ K.own w cs x f ∧ (∀ i ∈ f, i ∈ fp ∧ i ≠ g) ∧ g ∈ fp ∧ (∀ j u, cs[j]? = some u → w.cell? ⟨g, k * K.size + j, none⟩ = some u) := by
  obtain ⟨css, fps, hr, hl1, hl2, hown, hfp, hnd⟩ := h
  have hk : k < xs.length := (List.getElem?_eq_some_iff.1 hx).1
  have hc : css[k]? = some css[k] := List.getElem?_eq_getElem (by omega)
  have hf : fps[k]? = some fps[k] := List.getElem?_eq_getElem (by omega)
  have ho := hown k _ x _ hc hx hf
  have hall : ∀ cs ∈ css, cs.length = K.size := by
    intro cs hcs
    obtain ⟨i, hi, rfl⟩ := List.getElem_of_mem hcs
    exact K.rd_len (K.own_rd (hown i _ _ _ (List.getElem?_eq_getElem hi) (List.getElem?_eq_getElem (by omega)) (List.getElem?_eq_getElem (by omega))))
  rcases hr.2 with ⟨_, h2⟩ | ⟨g, cap, cur, h1, h2, h3, h4, h5, h6, h7⟩
  · omega
  · simp only [Value.slice.injEq] at h1
    obtain ⟨rfl, _, rfl⟩ := h1
    have hg : g < w.heap.size := by
      rcases Nat.lt_or_ge g w.heap.size with hlt | hge
      · exact hlt
      · rw [Array.getElem?_eq_none hge] at h3; cases h3
    have hnd' := hnd
    rw [hfp] at hnd'
    simp only [Option.map_some, Option.toList_some, List.singleton_append, List.nodup_cons] at hnd'
    refine ⟨g, css[k], fps[k], rfl, hg, ho, fun i hi => ⟨?_, ?_⟩, ?_, fun j u hu => ?_⟩
    · rw [hfp]
      exact List.mem_append_right _ (List.mem_flatten.2 ⟨_, List.getElem_mem (by omega), hi⟩)
    · rintro rfl
      exact hnd'.1 (List.mem_flatten.2 ⟨_, List.getElem_mem (by omega), hi⟩)
    · rw [hfp]; simp
    · have hj : j < K.size := by
        have := (List.getElem?_eq_some_iff.1 hu).1
        rw [hall _ (List.getElem_mem (by omega))] at this
        exact this
      have hfl := flatten_at hall k j _ hc hj
      have hlt : k * K.size + j < xs.length * K.size := by
        have : (k + 1) * K.size ≤ xs.length * K.size := Nat.mul_le_mul_right _ hk
        rw [Nat.add_mul] at this
        omega
      rw [World.ownsRow.cellAt hr (k * K.size + j) hlt, hfl, hu]
theorem LO.rd (h : LO K e w A c xs fp) : LR K w w.heap.size A c xs := by
  refine ⟨h.cap.1, h.cap.2, fun k x hx => ?_⟩
  obtain ⟨g, cs, f, rfl, hg, ho, _, _, hc⟩ := h.own_at k x hx
  exact ⟨g, 0, cs, rfl, hg, K.own_rd ho, fun j u hu => by rw [Nat.zero_add]; exact hc j u hu⟩
theorem LO.keep (h : LO K e w A c xs fp) (hk : ∀ k ∈ fp, w'.heap[k]? = w.heap[k]?) : LO K e w' A c xs fp := by
  obtain ⟨css, fps, hr, hl1, hl2, hown, hfp, hnd⟩ := h
  refine ⟨css, fps, ⟨hr.1, ?_⟩, hl1, hl2, fun k cs x f h1 h2 h3 => K.own_keep (hown k cs x f h1 h2 h3) (fun i hi => hk i ?_), hfp, hnd⟩
  · rcases hr.2 with hh | ⟨g, cap, cur, h1, h2, h3, r⟩
    · exact .inl hh
    · refine .inr ⟨g, cap, cur, h1, h2, ?_, r⟩
      rw [hk g ?_, h3]
      simp only [Value.slice.injEq] at h1
      rw [hfp, h1.1]
      simp
  · rw [hfp]
    exact List.mem_append_right _ (List.mem_flatten.2 ⟨_, List.mem_of_getElem? h3, hi⟩)
theorem LO.lt (h : LO K e w A c xs fp) : ∀ k ∈ fp, k < w.heap.size := by
  obtain ⟨css, fps, hr, hl1, hl2, hown, hfp, hnd⟩ := h
  intro k hk
  rw [hfp] at hk
  rcases List.mem_append.1 hk with hk | hk
  · have := World.ownsRow.lt hr k (by
      cases A with
      | none => simp at hk
      | some p => simp at hk; simp [Value.ownBlock, hk])
    exact this.2
  · obtain ⟨f, hf, hkf⟩ := List.mem_flatten.1 hk
    obtain ⟨i, hi, rfl⟩ := List.getElem_of_mem hf
    exact K.own_lt (hown i _ _ _ (List.getElem?_eq_getElem (by omega)) (List.getElem?_eq_getElem (by omega)) (List.getElem?_eq_getElem hi)) k hkf
theorem LO.nodup (h : LO K e w A c xs fp) : fp.Nodup := by
  obtain ⟨_, _, _, _, _, _, _, hnd⟩ := h; exact hnd
theorem LO.none_ : LO K e w none 0 ([] : List α) [] := ⟨[], [], ⟨by simp, .inl ⟨rfl, rfl⟩⟩, rfl, rfl, by simp, by simp, by simp⟩
end

def kdList {α : Type} (e : TypeId) (K : Kd α) : Kd (List α) where
  size := 1
  val vs := vs.headD undef
  rd w B vs xs := ∃ A c, vs = [.slice A xs.length c] ∧ LR K w B A c xs
  own w vs xs fp := ∃ A c, vs = [.slice A xs.length c] ∧ LO K e w A c xs fp
  mrk := mrkL K
  cnt := cntL K
  wt := wtL K
  rd_len := by rintro _ _ _ _ ⟨_, _, rfl, _⟩; rfl
  rd_one := by rintro _ _ _ _ ⟨_, _, rfl, _⟩; simp [Value.oneCell']
  rd_keep := by rintro _ _ _ _ _ ⟨A, c, rfl, h⟩ hk; exact ⟨A, c, rfl, h.keep hk⟩
  rd_more := by rintro _ _ _ _ _ ⟨A, c, rfl, h⟩ hk; exact ⟨A, c, rfl, h.more hk⟩
  own_rd := by rintro _ _ _ _ ⟨A, c, rfl, h⟩; exact ⟨A, c, rfl, h.rd⟩
  own_keep := by rintro _ _ _ _ _ ⟨A, c, rfl, h⟩ hk; exact ⟨A, c, rfl, h.keep hk⟩
  own_lt := by rintro _ _ _ _ ⟨A, c, rfl, h⟩; exact h.lt
  own_nodup := by rintro _ _ _ _ ⟨A, c, rfl, h⟩; exact h.nodup

end Go.Proofs.Ytmckompikbechaa
