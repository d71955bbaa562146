/- GB: KD, KE, KF, KG, KH in one text. -/
import Derived.Test.YtnokilofcdbjhaaGreatDoorGA
import Derived.Lib.QuietBelow
/- Kinds of data made of kinds: numbers, truth values, strings, lists, pairs of fields. Of no program but for the world's words. -/
namespace Go.Proofs.YtnokilofcdbjhaaGreatDoor
open Go.RowKit
set_option linter.unusedVariables false

/-- Of what was there only the blocks fp may have turned. -/
structure TchF (fp : List Nat) (w w' : World) : Prop where
  os : w'.os = w.os
  tape : w'.tape = w.tape
  output : w'.output = w.output
  size : w.heap.size ≤ w'.heap.size
  block : ∀ k, k < w.heap.size → k ∉ fp → w'.heap[k]? = w.heap[k]?
theorem TchF.of_ext {fp : List Nat} {w w' : World} (h : Ext w w') : TchF fp w w' := ⟨h.os, h.tape, h.output, h.size, fun k hk _ => h.block k hk⟩
theorem TchF.refl (fp : List Nat) (w : World) : TchF fp w w := TchF.of_ext (Ext.refl w)
theorem TchF.trans {fp : List Nat} {a b c : World} (h : TchF fp a b) (k : TchF fp b c) : TchF fp a c :=
  ⟨k.os.trans h.os, k.tape.trans h.tape, k.output.trans h.output, Nat.le_trans h.size k.size, fun i hi hr => (k.block i (Nat.lt_of_lt_of_le hi h.size) hr).trans (h.block i hi hr)⟩
theorem TchF.more {fp fp' : List Nat} {w w' : World} (h : TchF fp w w') (hs : ∀ k ∈ fp, k ∈ fp') : TchF fp' w w' :=
  ⟨h.os, h.tape, h.output, h.size, fun k hk hr => h.block k hk (fun hh => hr (hs k hh))⟩
theorem TchF.tch {fp : List Nat} {lo hi : Nat} {w w' : World} (h : TchF fp w w') (hr : ∀ k ∈ fp, lo ≤ k ∧ k < hi) : Tch lo hi w w' :=
  ⟨h.os, h.tape, h.output, h.size, fun k hk hh => h.block k hk (fun hm => by have := hr k hm; omega)⟩
theorem TchF.of_grown {w w' : World} {A : Option Addr} {fp : List Nat} (h : w.grownBy w' (A.map (·.block))) (hs : ∀ p, A = some p → p.block ∈ fp) : TchF fp w w' :=
  ⟨h.os, h.tape, h.output, h.size, fun k hk hr => h.block k hk (by
    intro e
    cases A with
    | none => simp at e
    | some p => simp at e; subst e; exact hr (hs p rfl))⟩
theorem Ext.tchF {fp : List Nat} {a w w' : World} (h : Ext a w) (k : TchF fp w w') (hlo : ∀ i ∈ fp, a.heap.size ≤ i) : Ext a w' :=
  Below.trans h ⟨k.os, k.tape, k.output, k.size, fun i hi => k.block i (Nat.lt_of_lt_of_le hi h.size) (fun hm => by have := hlo i hm; omega)⟩

structure Kd (α : Type) where
  size : Nat
  val : List Value → Value
  rd : World → Nat → List Value → α → Prop
  own : World → List Value → α → List Nat → Prop
  mrk : Int → α → α
  cnt : α → Nat
  wt : α → Nat
  rd_len : ∀ {w : World} {B : Nat} {vs : List Value} {a : α}, rd w B vs a → vs.length = size
  rd_one : ∀ {w : World} {B : Nat} {vs : List Value} {a : α}, rd w B vs a → ∀ v ∈ vs, v.oneCell' = true
  rd_keep : ∀ {w w' : World} {B : Nat} {vs : List Value} {a : α}, rd w B vs a → (∀ p : Addr, p.block < B → w'.cell? p = w.cell? p) → rd w' B vs a
  rd_more : ∀ {w : World} {B B' : Nat} {vs : List Value} {a : α}, rd w B vs a → B ≤ B' → rd w B' vs a
  own_rd : ∀ {w : World} {vs : List Value} {a : α} {fp : List Nat}, own w vs a fp → rd w w.heap.size vs a
  own_keep : ∀ {w w' : World} {vs : List Value} {a : α} {fp : List Nat}, own w vs a fp → (∀ k ∈ fp, w'.heap[k]? = w.heap[k]?) → own w' vs a fp
  own_lt : ∀ {w : World} {vs : List Value} {a : α} {fp : List Nat}, own w vs a fp → ∀ k ∈ fp, k < w.heap.size
  own_nodup : ∀ {w : World} {vs : List Value} {a : α} {fp : List Nat}, own w vs a fp → fp.Nodup

section
variable {α : Type} {K : Kd α} {w w' : World} {B : Nat} {vs : List Value} {a : α} {fp fp' : List Nat}
theorem Kd.rd_ext (K : Kd α) (h : K.rd w B vs a) (k : Ext w w') (hB : B ≤ w.heap.size) : K.rd w' B vs a := K.rd_keep h fun p hp => k.cell (by omega)
theorem Kd.own_ext (K : Kd α) (h : K.own w vs a fp) (k : Ext w w') : K.own w' vs a fp := K.own_keep h fun i hi => k.block i (K.own_lt h i hi)
theorem Kd.own_tchF (K : Kd α) (h : K.own w vs a fp) (k : TchF fp' w w') (hd : ∀ i ∈ fp, i ∉ fp') : K.own w' vs a fp := K.own_keep h fun i hi => k.block i (K.own_lt h i hi) (hd i hi)
end

/-! ### One cell -/
def kdInt : Kd Int where
  size := 1
  val vs := vs.headD undef
  rd w B vs a := vs = [.int .i64 a]
  own w vs a fp := vs = [.int .i64 a] ∧ fp = []
  mrk k _ := k
  cnt _ := 1
  wt _ := 0
  rd_len := by rintro _ _ _ _ rfl; rfl
  rd_one := by rintro _ _ _ _ rfl; simp [Value.oneCell']
  rd_keep := fun h _ => h
  rd_more := fun h _ => h
  own_rd := fun h => h.1
  own_keep := fun h _ => h
  own_lt := by rintro _ _ _ _ ⟨_, rfl⟩; simp
  own_nodup := by rintro _ _ _ _ ⟨_, rfl⟩; simp
/-- A number that the marks leave alone. -/
def kdNum : Kd Int := { kdInt with mrk := fun _ a => a, cnt := fun _ => 0 }
def kdBool : Kd Bool where
  size := 1
  val vs := vs.headD undef
  rd w B vs a := vs = [.bool a]
  own w vs a fp := vs = [.bool a] ∧ fp = []
  mrk _ a := a
  cnt _ := 0
  wt _ := 0
  rd_len := by rintro _ _ _ _ rfl; rfl
  rd_one := by rintro _ _ _ _ rfl; simp [Value.oneCell']
  rd_keep := fun h _ => h
  rd_more := fun h _ => h
  own_rd := fun h => h.1
  own_keep := fun h _ => h
  own_lt := by rintro _ _ _ _ ⟨_, rfl⟩; simp
  own_nodup := by rintro _ _ _ _ ⟨_, rfl⟩; simp
/-- A text, as the list of its bytes. -/
def bs (l : List UInt8) : ByteArray := ⟨l.toArray⟩
def kdStr (mk : Int → List UInt8) : Kd (List UInt8) where
  size := 1
  val vs := vs.headD undef
  rd w B vs a := vs = [.string (bs a)] ∧ a.length ≤ 9223372036854775807
  own w vs a fp := (vs = [.string (bs a)] ∧ a.length ≤ 9223372036854775807) ∧ fp = []
  mrk k _ := mk k
  cnt _ := 1
  wt a := a.length
  rd_len := by rintro _ _ _ _ ⟨rfl, _⟩; rfl
  rd_one := by rintro _ _ _ _ ⟨rfl, _⟩; simp [Value.oneCell']
  rd_keep := fun h _ => h
  rd_more := fun h _ => h
  own_rd := fun h => h.1
  own_keep := fun h _ => h
  own_lt := by rintro _ _ _ _ ⟨_, rfl⟩; simp
  own_nodup := by rintro _ _ _ _ ⟨_, rfl⟩; simp

/-! ### Two, one behind the other: the fields of a struct -/
def kdPair {α β : Type} (K : Kd α) (L : Kd β) : Kd (α × β) where
  size := K.size + L.size
  val vs := .agg vs.toArray
  rd w B vs a := ∃ v1 v2, vs = v1 ++ v2 ∧ K.rd w B v1 a.1 ∧ L.rd w B v2 a.2
  own w vs a fp := ∃ v1 v2 f1 f2, vs = v1 ++ v2 ∧ K.own w v1 a.1 f1 ∧ L.own w v2 a.2 f2 ∧ fp = f1 ++ f2 ∧ fp.Nodup
  mrk k a := (K.mrk k a.1, L.mrk (k + K.cnt a.1) a.2)
  cnt a := K.cnt a.1 + L.cnt a.2
  wt a := K.wt a.1 + L.wt a.2
  rd_len := by rintro _ _ _ _ ⟨v1, v2, rfl, h1, h2⟩; simp [K.rd_len h1, L.rd_len h2]
  rd_one := by
    rintro _ _ _ _ ⟨v1, v2, rfl, h1, h2⟩ v hv
    rcases List.mem_append.1 hv with h | h
    · exact K.rd_one h1 v h
    · exact L.rd_one h2 v h
  rd_keep := by rintro _ _ _ _ _ ⟨v1, v2, rfl, h1, h2⟩ hk; exact ⟨v1, v2, rfl, K.rd_keep h1 hk, L.rd_keep h2 hk⟩
  rd_more := by rintro _ _ _ _ _ ⟨v1, v2, rfl, h1, h2⟩ hk; exact ⟨v1, v2, rfl, K.rd_more h1 hk, L.rd_more h2 hk⟩
  own_rd := by rintro _ _ _ _ ⟨v1, v2, f1, f2, rfl, h1, h2, _, _⟩; exact ⟨v1, v2, rfl, K.own_rd h1, L.own_rd h2⟩
  own_keep := by
    rintro _ _ _ _ _ ⟨v1, v2, f1, f2, rfl, h1, h2, rfl, hn⟩ hk
    exact ⟨v1, v2, f1, f2, rfl, K.own_keep h1 (fun i hi => hk i (by simp [hi])), L.own_keep h2 (fun i hi => hk i (by simp [hi])), rfl, hn⟩
  own_lt := by
    rintro _ _ _ _ ⟨v1, v2, f1, f2, rfl, h1, h2, rfl, _⟩ k hk
    rcases List.mem_append.1 hk with h | h
    · exact K.own_lt h1 k h
    · exact L.own_lt h2 k h
  own_nodup := by rintro _ _ _ _ ⟨_, _, _, _, _, _, _, rfl, hn⟩; exact hn

/-! ### Lists -/
section
variable {α : Type} (K : Kd α)
/-- The slice with address A and capacity c reads as the elements xs. -/
def LR (w : World) (B : Nat) (A : Option Addr) (c : Nat) (xs : List α) : Prop :=
  xs.length ≤ c ∧ c ≤ 9223372036854775807 ∧
  ∀ (k : Nat) (x : α), xs[k]? = some x → ∃ (b off : Nat) (cs : List Value), A = some ⟨b, off, none⟩ ∧ b < B ∧ K.rd w B cs x ∧ ∀ j u, cs[j]? = some u → w.cell? ⟨b, off + (k * K.size + j), none⟩ = some u
/-- The call's own list: a row of its own, and each element an object of its own. -/
def LO (e : TypeId) (w : World) (A : Option Addr) (c : Nat) (xs : List α) (fp : List Nat) : Prop :=
  ∃ (css : List (List Value)) (fps : List (List Nat)), w.ownsRow 0 e K.size (.slice A xs.length c) xs.length css.flatten ∧ css.length = xs.length ∧ fps.length = xs.length ∧
    (∀ (k : Nat) (cs : List Value) (x : α) (f : List Nat), css[k]? = some cs → xs[k]? = some x → fps[k]? = some f → K.own w cs x f) ∧ fp = (A.map (·.block)).toList ++ fps.flatten ∧ fp.Nodup
def mrkL : Int → List α → List α
  | _, [] => []
  | k, x :: xs => K.mrk k x :: mrkL (k + K.cnt x) xs
def cntL : List α → Nat
  | [] => 0
  | x :: xs => K.cnt x + cntL xs
def wtL : List α → Nat
  | [] => 0
  | x :: xs => 1 + K.wt x + wtL xs
end

theorem flatten_at {s : Nat} {css : List (List Value)} (h : ∀ cs ∈ css, cs.length = s) (k j : Nat) (cs : List Value) (hk : css[k]? = some cs) (hj : j < s) : css.flatten[k * s + j]? = cs[j]? := by
  induction css generalizing k with
  | nil => simp at hk
  | cons c t ih =>
    have hc : c.length = s := h c (by simp)
    cases k with
    | zero =>
      simp at hk
      subst hk
      simp [List.getElem?_append, hc, hj]
    | succ k =>
      simp at hk
      have := ih (fun d hd => h d (by simp [hd])) k hk
      rw [List.flatten_cons, List.getElem?_append_right (by rw [hc, Nat.add_mul]; omega), hc, ← this]
      congr 1
      rw [Nat.add_mul]
      omega

section
variable {α : Type} {K : Kd α} {e : TypeId} {w w' : World} {B c : Nat} {A : Option Addr} {xs : List α} {fp : List Nat}
theorem LR.keep (h : LR K w B A c xs) (hk : ∀ p : Addr, p.block < B → w'.cell? p = w.cell? p) : LR K w' B A c xs := by
  refine ⟨h.1, h.2.1, fun k x hx => ?_⟩
  obtain ⟨b, off, cs, e, hb, hr, hc⟩ := h.2.2 k x hx
  exact ⟨b, off, cs, e, hb, K.rd_keep hr hk, fun j u hu => (hk _ hb).trans (hc j u hu)⟩
theorem LR.more {B' : Nat} (h : LR K w B A c xs) (hB : B ≤ B') : LR K w B' A c xs := by
  refine ⟨h.1, h.2.1, fun k x hx => ?_⟩
  obtain ⟨b, off, cs, e, hb, hr, hc⟩ := h.2.2 k x hx
  exact ⟨b, off, cs, e, by omega, K.rd_more hr hB, hc⟩
theorem LR.ext (h : LR K w B A c xs) (k : Ext w w') (hB : B ≤ w.heap.size) : LR K w' B A c xs := h.keep fun p hp => k.cell (by omega)
theorem LO.cap (h : LO K e w A c xs fp) : xs.length ≤ c ∧ c ≤ 9223372036854775807 := by
  obtain ⟨css, fps, hr, _⟩ := h
  rcases hr.2 with ⟨h1, h2⟩ | ⟨g, cap, cur, h1, h2, h3, h4, h5, _⟩
  · simp only [Value.slice.injEq] at h1
    omega
  · simp only [Value.slice.injEq] at h1
    unfold maxLen at h5
    omega
theorem LO.own_at (h : LO K e w A c xs fp) (k : Nat) (x : α) (hx : xs[k]? = some x) : ∃ g cs f, A = some ⟨g, 0, none⟩ ∧ g < w.heap.size ∧ K.own w cs x f ∧ (∀ i ∈ f, i ∈ fp ∧ i ≠ g) ∧ g ∈ fp ∧ (∀ j u, cs[j]? = some u → w.cell? ⟨g, k * K.size + j, none⟩ = some u) := by
  obtain ⟨css, fps, hr, hl1, hl2, hown, hfp, hnd⟩ := h
  have hk : k < xs.length := (List.getElem?_eq_some_iff.1 hx).1
  have hc : css[k]? = some css[k] := List.getElem?_eq_getElem (by omega)
  have hf : fps[k]? = some fps[k] := List.getElem?_eq_getElem (by omega)
  have ho := hown k _ x _ hc hx hf
  have hall : ∀ cs ∈ css, cs.length = K.size := by
    intro cs hcs
    obtain ⟨i, hi, rfl⟩ := List.getElem_of_mem hcs
    exact K.rd_len (K.own_rd (hown i _ _ _ (List.getElem?_eq_getElem hi) (List.getElem?_eq_getElem (by omega)) (List.getElem?_eq_getElem (by omega))))
  rcases hr.2 with ⟨_, h2⟩ | ⟨g, cap, cur, h1, h2, h3, h4, h5, h6, h7⟩
  · omega
  · simp only [Value.slice.injEq] at h1
    obtain ⟨rfl, _, rfl⟩ := h1
    have hg : g < w.heap.size := by
      rcases Nat.lt_or_ge g w.heap.size with hlt | hge
      · exact hlt
      · rw [Array.getElem?_eq_none hge] at h3; cases h3
    have hnd' := hnd
    rw [hfp] at hnd'
    simp only [Option.map_some, Option.toList_some, List.singleton_append, List.nodup_cons] at hnd'
    refine ⟨g, css[k], fps[k], rfl, hg, ho, fun i hi => ⟨?_, ?_⟩, ?_, fun j u hu => ?_⟩
    · rw [hfp]
      exact List.mem_append_right _ (List.mem_flatten.2 ⟨_, List.getElem_mem (by omega), hi⟩)
    · rintro rfl
      exact hnd'.1 (List.mem_flatten.2 ⟨_, List.getElem_mem (by omega), hi⟩)
    · rw [hfp]; simp
    · have hj : j < K.size := by
        have := (List.getElem?_eq_some_iff.1 hu).1
        rw [hall _ (List.getElem_mem (by omega))] at this
        exact this
      have hfl := flatten_at hall k j _ hc hj
      have hlt : k * K.size + j < xs.length * K.size := by
        have : (k + 1) * K.size ≤ xs.length * K.size := Nat.mul_le_mul_right _ hk
        rw [Nat.add_mul] at this
        omega
      rw [World.ownsRow.cellAt hr (k * K.size + j) hlt, hfl, hu]
theorem LO.rd (h : LO K e w A c xs fp) : LR K w w.heap.size A c xs := by
  refine ⟨h.cap.1, h.cap.2, fun k x hx => ?_⟩
  obtain ⟨g, cs, f, rfl, hg, ho, _, _, hc⟩ := h.own_at k x hx
  exact ⟨g, 0, cs, rfl, hg, K.own_rd ho, fun j u hu => by rw [Nat.zero_add]; exact hc j u hu⟩
theorem LO.keep (h : LO K e w A c xs fp) (hk : ∀ k ∈ fp, w'.heap[k]? = w.heap[k]?) : LO K e w' A c xs fp := by
  obtain ⟨css, fps, hr, hl1, hl2, hown, hfp, hnd⟩ := h
  refine ⟨css, fps, ⟨hr.1, ?_⟩, hl1, hl2, fun k cs x f h1 h2 h3 => K.own_keep (hown k cs x f h1 h2 h3) (fun i hi => hk i ?_), hfp, hnd⟩
  · rcases hr.2 with hh | ⟨g, cap, cur, h1, h2, h3, r⟩
    · exact .inl hh
    · refine .inr ⟨g, cap, cur, h1, h2, ?_, r⟩
      rw [hk g ?_, h3]
      simp only [Value.slice.injEq] at h1
      rw [hfp, h1.1]
      simp
  · rw [hfp]
    exact List.mem_append_right _ (List.mem_flatten.2 ⟨_, List.mem_of_getElem? h3, hi⟩)
theorem LO.lt (h : LO K e w A c xs fp) : ∀ k ∈ fp, k < w.heap.size := by
  obtain ⟨css, fps, hr, hl1, hl2, hown, hfp, hnd⟩ := h
  intro k hk
  rw [hfp] at hk
  rcases List.mem_append.1 hk with hk | hk
  · have := World.ownsRow.lt hr k (by
      cases A with
      | none => simp at hk
      | some p => simp at hk; simp [Value.ownBlock, hk])
    exact this.2
  · obtain ⟨f, hf, hkf⟩ := List.mem_flatten.1 hk
    obtain ⟨i, hi, rfl⟩ := List.getElem_of_mem hf
    exact K.own_lt (hown i _ _ _ (List.getElem?_eq_getElem (by omega)) (List.getElem?_eq_getElem (by omega)) (List.getElem?_eq_getElem hi)) k hkf
theorem LO.nodup (h : LO K e w A c xs fp) : fp.Nodup := by
  obtain ⟨_, _, _, _, _, _, _, hnd⟩ := h; exact hnd
theorem LO.none_ : LO K e w none 0 ([] : List α) [] := ⟨[], [], ⟨by simp, .inl ⟨rfl, rfl⟩⟩, rfl, rfl, by simp, by simp, by simp⟩
end

def kdList {α : Type} (e : TypeId) (K : Kd α) : Kd (List α) where
  size := 1
  val vs := vs.headD undef
  rd w B vs xs := ∃ A c, vs = [.slice A xs.length c] ∧ LR K w B A c xs
  own w vs xs fp := ∃ A c, vs = [.slice A xs.length c] ∧ LO K e w A c xs fp
  mrk := mrkL K
  cnt := cntL K
  wt := wtL K
  rd_len := by rintro _ _ _ _ ⟨_, _, rfl, _⟩; rfl
  rd_one := by rintro _ _ _ _ ⟨_, _, rfl, _⟩; simp [Value.oneCell']
  rd_keep := by rintro _ _ _ _ _ ⟨A, c, rfl, h⟩ hk; exact ⟨A, c, rfl, h.keep hk⟩
  rd_more := by rintro _ _ _ _ _ ⟨A, c, rfl, h⟩ hk; exact ⟨A, c, rfl, h.more hk⟩
  own_rd := by rintro _ _ _ _ ⟨A, c, rfl, h⟩; exact ⟨A, c, rfl, h.rd⟩
  own_keep := by rintro _ _ _ _ _ ⟨A, c, rfl, h⟩ hk; exact ⟨A, c, rfl, h.keep hk⟩
  own_lt := by rintro _ _ _ _ ⟨A, c, rfl, h⟩; exact h.lt
  own_nodup := by rintro _ _ _ _ ⟨A, c, rfl, h⟩; exact h.nodup

end Go.Proofs.YtnokilofcdbjhaaGreatDoor

/- What the kinds' lists bear: an element changed in its own memory, stored anew, appended; new lists. -/
namespace Go.Proofs.YtnokilofcdbjhaaGreatDoor
open Go.RowKit
set_option linter.unusedVariables false

theorem nodup_flat {L : List (List Nat)} : L.flatten.Nodup ↔ (∀ l ∈ L, l.Nodup) ∧ L.Pairwise (fun a b => ∀ x ∈ a, ∀ y ∈ b, x ≠ y) := List.pairwise_flatten
theorem nodup_flat_ne {L : List (List Nat)} (h : L.flatten.Nodup) {j k : Nat} {a b : List Nat} (hj : L[j]? = some a) (hk : L[k]? = some b) (hne : j ≠ k) : ∀ x ∈ a, x ∉ b := by
  have hp := (nodup_flat.1 h).2
  obtain ⟨hj1, rfl⟩ := List.getElem?_eq_some_iff.1 hj
  obtain ⟨hk1, rfl⟩ := List.getElem?_eq_some_iff.1 hk
  intro x hx hx'
  rcases Nat.lt_or_gt_of_ne hne with hlt | hlt
  · exact List.pairwise_iff_getElem.1 hp j k hj1 hk1 hlt x hx x hx' rfl
  · exact List.pairwise_iff_getElem.1 hp k j hk1 hj1 hlt x hx' x hx rfl
theorem nodup_flat_set {L : List (List Nat)} (h : L.flatten.Nodup) {k : Nat} {a b : List Nat} (hk : L[k]? = some a) (hb : b.Nodup) (hd : ∀ i ∈ b, i ∈ a ∨ i ∉ L.flatten) : (L.set k b).flatten.Nodup := by
  rw [nodup_flat]
  have h' := nodup_flat.1 h
  refine ⟨fun l hl => ?_, List.pairwise_iff_getElem.2 fun i j hi hj hij x hx y hy => ?_⟩
  · rcases List.mem_or_eq_of_mem_set hl with hl | rfl
    · exact h'.1 l hl
    · exact hb
  · rintro rfl
    simp only [List.length_set] at hi hj
    simp only [List.getElem_set] at hx hy
    by_cases hki : k = i
    · rw [if_pos hki] at hx
      rw [if_neg (by omega)] at hy
      have hyL : x ∈ L.flatten := List.mem_flatten.2 ⟨_, List.getElem_mem hj, hy⟩
      rcases hd x hx with hxa | hxn
      · exact nodup_flat_ne h hk (List.getElem?_eq_getElem hj) (by omega) x hxa hy
      · exact hxn hyL
    · rw [if_neg hki] at hx
      by_cases hkj : k = j
      · rw [if_pos hkj] at hy
        have hyL : x ∈ L.flatten := List.mem_flatten.2 ⟨_, List.getElem_mem hi, hx⟩
        rcases hd x hy with hxa | hxn
        · exact nodup_flat_ne h (List.getElem?_eq_getElem hi) hk (by omega) x hx hxa
        · exact hxn hyL
      · rw [if_neg hkj] at hy
        exact nodup_flat_ne h (List.getElem?_eq_getElem hi) (List.getElem?_eq_getElem hj) (by omega) x hx hy
theorem mem_flat_set {L : List (List Nat)} {k : Nat} {b : List Nat} {i : Nat} (h : i ∈ (L.set k b).flatten) : i ∈ L.flatten ∨ i ∈ b := by
  obtain ⟨l, hl, hi⟩ := List.mem_flatten.1 h
  rcases List.mem_or_eq_of_mem_set hl with hl | rfl
  · exact .inl (List.mem_flatten.2 ⟨l, hl, hi⟩)
  · exact .inr hi
theorem mem_of_opt {A : Option Addr} {k : Nat} (h : k ∈ (A.map (·.block)).toList) : ∃ p, A = some p ∧ p.block = k := by
  cases A with
  | none => simp at h
  | some p => simp at h; exact ⟨p, rfl, h.symm⟩

section
variable {α : Type} {K : Kd α} {e : TypeId} {w w' : World} {c : Nat} {A : Option Addr} {xs : List α} {fp : List Nat}

/-- The row of a world in which that block reads as before. -/
theorem ownsRow_keep {s n : Nat} {vs : List Value} (hr : w.ownsRow 0 e s (.slice A n c) n vs) (hk : ∀ p, A = some p → w'.heap[p.block]? = w.heap[p.block]?) : w'.ownsRow 0 e s (.slice A n c) n vs := by
  refine ⟨hr.1, ?_⟩
  rcases hr.2 with hh | ⟨g, cap, cur, h1, h2, h3, r⟩
  · exact .inl hh
  · refine .inr ⟨g, cap, cur, h1, h2, ?_, r⟩
    simp only [Value.slice.injEq] at h1
    have := hk _ h1.1
    rw [← h3]
    exact this

/-- Cells written one behind the other. -/
def setL : List Value → Nat → List Value → List Value
  | xs, _, [] => xs
  | xs, o, v :: t => setL (xs.set o v) (o + 1) t
theorem setL_eq (cs : List Value) : ∀ (xs : List Value) (o : Nat), o + cs.length ≤ xs.length → setL xs o cs = xs.take o ++ cs ++ xs.drop (o + cs.length) := by
  induction cs with
  | nil => intro xs o h; simp [setL]
  | cons v t ih =>
    intro xs o h
    simp only [List.length_cons] at h
    rw [setL, ih _ _ (by simp; omega)]
    have h1 : (xs.set o v).take (o + 1) = xs.take o ++ [v] := by
      rw [List.take_succ_eq_append_getElem (by simp; omega)]
      simp [List.take_set]
      rw [List.set_eq_of_length_le (by simp; omega)]
    have h2 : (xs.set o v).drop (o + 1 + t.length) = xs.drop (o + (t.length + 1)) := by
      rw [List.drop_set, if_pos (by omega)]
      congr 1
      omega
    rw [h1, h2]
    simp
theorem setL_flat {s k n : Nat} {css : List (List Value)} {cs' : List Value} (hall : ∀ cs ∈ css, cs.length = s) (hk : k < n) (hl : css.length = n) (hl' : cs'.length = s) : setL css.flatten (k * s) cs' = (css.set k cs').flatten := by
  have hlen : ∀ L : List (List Value), (∀ cs ∈ L, cs.length = s) → L.flatten.length = L.length * s := by
    intro L hL
    induction L with
    | nil => simp
    | cons d t ih => simp [hL d (by simp), ih (fun x hx => hL x (by simp [hx])), Nat.add_mul]; omega
  have hk' : k < css.length := by omega
  have hdec : css = css.take k ++ css[k] :: css.drop (k + 1) := by rw [← List.drop_eq_getElem_cons hk', List.take_append_drop]
  have h1 : (css.take k).flatten.length = k * s := by rw [hlen _ (fun x hx => hall x (List.mem_of_mem_take hx)), List.length_take, Nat.min_eq_left (by omega)]
  have h2 : css[k].length = s := hall _ (List.getElem_mem hk')
  have hfl : css.flatten = (css.take k).flatten ++ (css[k] ++ (css.drop (k + 1)).flatten) := by
    have := congrArg List.flatten hdec
    rw [List.flatten_append, List.flatten_cons] at this
    exact this
  rw [setL_eq _ _ _ (by rw [hlen _ hall, hl']; have : (k + 1) * s ≤ css.length * s := Nat.mul_le_mul_right _ hk'; rw [Nat.add_mul] at this; omega)]
  rw [hfl, List.take_left' h1, hl', List.drop_append, h1, List.drop_eq_nil_of_le (by rw [h1]; omega)]
  rw [show k * s + s - k * s = s by omega, List.drop_left' h2]
  rw [List.set_eq_take_append_cons_drop, if_pos hk']
  simp
theorem heap_setCells_far {g : Nat} (cs : List Value) : ∀ (o : Nat) (w : World) {i : Nat}, i ≠ g → (w.setCells g o cs).heap[i]? = w.heap[i]? := by
  induction cs with
  | nil => intro o w i hi; rfl
  | cons v t ih =>
    intro o w i hi
    show ((w.setCell ⟨g, o, none⟩ v).setCells g (o + 1) t).heap[i]? = _
    rw [ih _ _ hi, Below.heap_setCell _ _ _ _ hi]
theorem size_setCells {g : Nat} (cs : List Value) : ∀ (o : Nat) (w : World), (w.setCells g o cs).heap.size = w.heap.size := by
  induction cs with
  | nil => intro o w; rfl
  | cons v t ih =>
    intro o w
    show ((w.setCell ⟨g, o, none⟩ v).setCells g (o + 1) t).heap.size = _
    rw [ih]
    simp [World.setCell]
theorem ownsRow_setCells {s n g : Nat} (cs : List Value) : ∀ (o : Nat) {w : World} {vs : List Value}, w.ownsRow 0 e s (.slice (some ⟨g, 0, none⟩) n c) n vs → (w.setCells g o cs).ownsRow 0 e s (.slice (some ⟨g, 0, none⟩) n c) n (setL vs o cs) := by
  induction cs with
  | nil => intro o w vs h; exact h
  | cons v t ih =>
    intro o w vs h
    exact ih (o + 1) (World.ownsRow.stored h o v).1

/-- The element k with its cells and its memory. -/
structure At (K : Kd α) (e : TypeId) (w : World) (A : Option Addr) (c : Nat) (xs : List α) (fp : List Nat) (k : Nat) (x : α) (g : Nat) (cs : List Value) (f : List Nat) : Prop where
  addr : A = some ⟨g, 0, none⟩
  own : K.own w cs x f
  sub : ∀ i ∈ f, i ∈ fp ∧ i ≠ g
  mem : g ∈ fp
  lt : g < w.heap.size
  cell : ∀ j u, cs[j]? = some u → w.cell? ⟨g, k * K.size + j, none⟩ = some u
  free : ∀ j, w.frozen? ⟨g, j, none⟩ = false
  inplace : ∀ (w' : World) (x' : α), K.own w' cs x' f → TchF f w w' → LO K e w' A c (xs.set k x') fp
  store : ∀ (w' : World) (cs' : List Value) (x' : α) (f' : List Nat), K.own w' cs' x' f' → TchF f w w' → (∀ i ∈ f', i ∈ f ∨ i ∉ fp) → ∃ fp', LO K e (w'.setCells g (k * K.size) cs') A c (xs.set k x') fp' ∧ ∀ i ∈ fp', i ∈ fp ∨ i ∈ f'

theorem LO.at_ (h : LO K e w A c xs fp) (k : Nat) (x : α) (hx : xs[k]? = some x) : ∃ g cs f, At K e w A c xs fp k x g cs f := by
  obtain ⟨css, fps, hr, hl1, hl2, hown, hfp, hnd⟩ := id h
  have hk : k < xs.length := (List.getElem?_eq_some_iff.1 hx).1
  have hck : css[k]? = some css[k] := List.getElem?_eq_getElem (by omega)
  have hfk : fps[k]? = some fps[k] := List.getElem?_eq_getElem (by omega)
  have hall : ∀ cs ∈ css, cs.length = K.size := by
    intro cs hcs
    obtain ⟨i, hi, rfl⟩ := List.getElem_of_mem hcs
    exact K.rd_len (K.own_rd (hown i _ _ _ (List.getElem?_eq_getElem hi) (List.getElem?_eq_getElem (by omega)) (List.getElem?_eq_getElem (by omega))))
  have hA : ∃ g, A = some ⟨g, 0, none⟩ := by
    rcases hr.2 with ⟨_, h2⟩ | ⟨g, cap, cur, h1, _⟩
    · omega
    · simp only [Value.slice.injEq] at h1; exact ⟨g, h1.1⟩
  obtain ⟨g, rfl⟩ := hA
  have hfp' : fp = g :: fps.flatten := by rw [hfp]; rfl
  have hnd2 : g ∉ fps.flatten ∧ fps.flatten.Nodup := by rw [hfp'] at hnd; exact List.nodup_cons.1 hnd
  have hg : g < w.heap.size := h.lt g (by rw [hfp']; simp)
  have hsub : ∀ i ∈ fps[k], i ∈ fp ∧ i ≠ g := by
    intro i hi
    have hm : i ∈ fps.flatten := List.mem_flatten.2 ⟨_, List.getElem_mem (by omega), hi⟩
    exact ⟨by rw [hfp']; simp [hm], fun e => hnd2.1 (e ▸ hm)⟩
  have hrow : ∀ w' : World, TchF fps[k] w w' → w'.heap[g]? = w.heap[g]? := fun w' ht => ht.block g hg (fun hm => (hsub g hm).2 rfl)
  have hoth : ∀ (w' : World), TchF fps[k] w w' → ∀ (j : Nat) (cs : List Value) (y : α) (f : List Nat), j ≠ k → css[j]? = some cs → xs[j]? = some y → fps[j]? = some f → K.own w' cs y f := by
    intro w' ht j cs y f hjk h1 h2 h3
    exact K.own_tchF (hown j cs y f h1 h2 h3) ht (nodup_flat_ne hnd2.2 h3 hfk hjk)
  refine ⟨g, css[k], fps[k], rfl, hown k _ x _ hck hx hfk, hsub, by rw [hfp']; simp, hg, ?_, ?_, ?_, ?_⟩
  · intro j u hu
    have hj : j < K.size := by
      have := (List.getElem?_eq_some_iff.1 hu).1
      rw [hall _ (List.getElem_mem (by omega))] at this
      exact this
    have hlt : k * K.size + j < xs.length * K.size := by
      have : (k + 1) * K.size ≤ xs.length * K.size := Nat.mul_le_mul_right _ hk
      rw [Nat.add_mul] at this
      omega
    rw [World.ownsRow.cellAt hr (k * K.size + j) hlt, flatten_at hall k j _ hck hj, hu]
  · exact fun j => World.ownsRow.frozenAt hr j
  · intro w' x' ho' ht
    refine ⟨css, fps, ?_, by simpa using hl1, by simpa using hl2, ?_, hfp, hnd⟩
    · rw [List.length_set]
      exact ownsRow_keep hr (fun p hp => by injection hp with hp; subst hp; exact hrow w' ht)
    · intro j cs y f h1 h2 h3
      rw [List.getElem?_set] at h2
      by_cases hkj : k = j
      · subst hkj
        rw [if_pos rfl, if_pos hk] at h2
        rw [hck] at h1
        rw [hfk] at h3
        injection h1 with h1
        injection h2 with h2
        injection h3 with h3
        subst h1 h2 h3
        exact ho'
      · rw [if_neg hkj] at h2
        exact hoth w' ht j cs y f (Ne.symm hkj) h1 h2 h3
  · intro w' cs' x' f' ho' ht hd
    have hgf' : g ∉ f' := fun hm => by
      rcases hd g hm with hh | hh
      · exact (hsub g hh).2 rfl
      · exact hh (by rw [hfp']; simp)
    have hr' : w'.ownsRow 0 e K.size (.slice (some ⟨g, 0, none⟩) xs.length c) xs.length css.flatten := ownsRow_keep hr (fun p hp => by injection hp with hp; subst hp; exact hrow w' ht)
    have hl' : cs'.length = K.size := K.rd_len (K.own_rd ho')
    have hst := ownsRow_setCells cs' (k * K.size) hr'
    rw [setL_flat hall hk hl1 hl'] at hst
    have hblk : ∀ i, i ≠ g → (w'.setCells g (k * K.size) cs').heap[i]? = w'.heap[i]? := fun i hi => heap_setCells_far cs' (k * K.size) w' hi
    refine ⟨g :: (fps.set k f').flatten, ⟨css.set k cs', fps.set k f', by rw [List.length_set]; exact hst, by simpa using hl1, by simpa using hl2, ?_, rfl, ?_⟩, ?_⟩
    · intro j cs y f h1 h2 h3
      rw [List.getElem?_set] at h1 h2 h3
      by_cases hkj : k = j
      · subst hkj
        rw [if_pos rfl, if_pos (by omega)] at h1 h2 h3
        injection h1 with h1
        injection h2 with h2
        injection h3 with h3
        subst h1 h2 h3
        exact K.own_keep ho' (fun i hi => hblk i (fun e => hgf' (e ▸ hi)))
      · rw [if_neg hkj] at h1 h2 h3
        refine K.own_keep (hoth w' ht j cs y f (Ne.symm hkj) h1 h2 h3) (fun i hi => hblk i ?_)
        rintro rfl
        exact hnd2.1 (List.mem_flatten.2 ⟨_, List.mem_of_getElem? h3, hi⟩)
    · rw [List.nodup_cons]
      refine ⟨fun hm => ?_, nodup_flat_set hnd2.2 hfk (K.own_nodup ho') (fun i hi => ?_)⟩
      · rcases mem_flat_set hm with hh | hh
        · exact hnd2.1 hh
        · exact hgf' hh
      · rcases hd i hi with hh | hh
        · exact .inl hh
        · exact .inr (fun hm => hh (by rw [hfp']; simp [hm]))
    · intro i hi
      rcases List.mem_cons.1 hi with rfl | hi
      · exact .inl (by rw [hfp']; simp)
      · rcases mem_flat_set hi with hh | hh
        · exact .inl (by rw [hfp']; simp [hh])
        · exact .inr hh

/-- What the tables say of a slice type t with elements of type e. -/
def ElemN (P : Program) (t e : TypeId) (size bytes : Nat) (z : Value) : Prop :=
  P.underlying t = some (.slice e) ∧ ∃ i, P.info? e = some i ∧ i.zero = some z ∧ i.size = size ∧ i.bytes = bytes ∧ z.cells.size = size
theorem ElemN.mk {P : Program} {t e : TypeId} {z : Value} {size bytes : Nat} (h : P.underlying t = some (.slice e)) (h' : (P.info? e).map (fun i => (i.zero, i.size, i.bytes)) = some (some z, size, bytes)) (hz : z.cells.size = size) : ElemN P t e size bytes z := by
  obtain ⟨i, hi, h0, h1, h2⟩ := info_parts h'
  exact ⟨h, i, hi, h0, h1, h2, hz⟩

/-- What an append of one element leaves. -/
structure ApL (K : Kd α) (e : TypeId) (w : World) (fp f : List Nat) (w' : World) (A' : Option Addr) (c' : Nat) (xs' : List α) (fp' : List Nat) : Prop where
  own : LO K e w' A' c' xs' fp'
  sub : ∀ i ∈ fp', i ∈ fp ∨ i ∈ f ∨ i = w.heap.size
  tch : TchF fp w w'

section
variable {P : Program} {t ty : TypeId} {bytes : Nat} {z : Value}
theorem run_append_LO (E : ElemN P t e K.size bytes z) (hs0 : 0 < K.size) (h : LO K e w A c xs fp) {cs : List Value} {x : α} {f : List Nat} (ho : K.own w cs x f) (hd : ∀ i ∈ f, i ∉ fp)
    {gl : Nat} (hsrc : ∀ j u, cs[j]? = some u → w.cell? ⟨gl, 0 + j, none⟩ = some u) (d : Nat) (hb : (xs.length + 1) * bytes ≤ 140737488355328) (hm : xs.length + 1 ≤ 4611686018427387904) :
    ∃ A' c' w' fp', (Builtin.append_ #[t, t] ty #[.slice A xs.length c, .slice (some ⟨gl, 0, none⟩) 1 d]).run P w = .ok (.slice A' (xs.length + 1) c') w' ∧ ApL K e w fp f w' A' c' (xs ++ [x]) fp' := by
  obtain ⟨css, fps, hr, hl1, hl2, hown, hfp, hnd⟩ := id h
  obtain ⟨ht, i, hi, hz, hz1, hz2, hz3⟩ := E
  have hcl : cs.length = K.size := K.rd_len (K.own_rd ho)
  have hob : ∀ (A : Option Addr) (n c : Nat), (Value.slice A n c).ownBlock = A.map (·.block) := fun A n c => by cases A <;> rfl
  obtain ⟨v', w', hrun, h2, h3, _, h5⟩ := run_append_own_at (P := P) w 0 t ty e i z K.size bytes ht hi hz hz1 hz2 hz3 hs0 _ xs.length css.flatten hr ⟨gl, 0, none⟩ 1 d cs (by rw [hcl]; omega)
    (fun j u hu => by rw [add_none]; exact hsrc j u hu) (K.rd_one (K.own_rd ho)) (by unfold maxLen; omega) hb (Nat.zero_le _)
  have hv : ∃ A' c', v' = .slice A' (xs.length + 1) c' := by
    rcases h2.2 with ⟨rfl, h0⟩ | ⟨g, cap, cur, rfl, _⟩
    · omega
    · exact ⟨_, _, rfl⟩
  obtain ⟨A', c', rfl⟩ := hv
  rw [hob] at h3
  rw [hob, hob] at h5
  have hA' : ∃ p, A' = some p := by
    rcases h2.2 with ⟨hh, h0⟩ | ⟨g, cap, cur, hh, _⟩
    · omega
    · simp only [Value.slice.injEq] at hh; exact ⟨_, hh.1⟩
  obtain ⟨p', rfl⟩ := hA'
  have hin : ∀ i ∈ fps.flatten, i ∈ fp := fun i hi => by rw [hfp]; simp [hi]
  have hlt := h.lt
  have hkeep : ∀ i, i < w.heap.size → (∀ p, A = some p → i ≠ p.block) → w'.heap[i]? = w.heap[i]? := by
    intro i hi hne
    refine h3.block i hi (fun hh => ?_)
    cases A with
    | none => simp at hh
    | some p => simp at hh; exact hne p rfl hh
  have hnd2 : (∀ p, A = some p → p.block ∉ fps.flatten) ∧ fps.flatten.Nodup := by
    rw [hfp] at hnd
    cases A with
    | none => exact ⟨by simp, by simpa using hnd⟩
    | some p => simp at hnd; exact ⟨fun q hq => by injection hq with hq; subst hq; simpa using hnd.1, hnd.2⟩
  have hpf : ∀ p, A = some p → p.block ∉ f := fun p hp hm => hd _ hm (by rw [hfp, hp]; simp)
  have hp'1 : p'.block ∉ fps.flatten ∧ p'.block ∉ f := by
    rcases h5 with h5 | h5
    · cases A with
      | none => simp at h5
      | some p => simp at h5; rw [h5]; exact ⟨hnd2.1 p rfl, hpf p rfl⟩
    · simp at h5
      exact ⟨fun hm => by have := hlt _ (hin _ hm); omega, fun hm => by have := K.own_lt ho _ hm; omega⟩
  refine ⟨some p', c', w', p'.block :: (fps ++ [f]).flatten, hrun, ⟨⟨css ++ [cs], fps ++ [f], ?_, by simp [hl1], by simp [hl2], ?_, rfl, ?_⟩, ?_, ?_⟩⟩
  · simpa using h2
  · intro j cs' y f' h1' h2' h3'
    by_cases hj : j < xs.length
    · rw [List.getElem?_append_left (by omega)] at h1' h2' h3'
      have ho' := hown j cs' y f' h1' h2' h3'
      refine K.own_keep ho' (fun i hi => hkeep i (K.own_lt ho' i hi) (fun p hp e => ?_))
      exact hnd2.1 p hp (e ▸ List.mem_flatten.2 ⟨_, List.mem_of_getElem? h3', hi⟩)
    · have hj' : j = xs.length := by
        have := (List.getElem?_eq_some_iff.1 h2').1
        simp at this
        omega
      subst hj'
      rw [List.getElem?_append_right (by omega)] at h1' h2' h3'
      simp [hl1] at h1'
      simp at h2'
      simp [hl2] at h3'
      subst h1' h2' h3'
      exact K.own_keep ho (fun i hi => hkeep i (K.own_lt ho i hi) (fun p hp e => hpf p hp (e ▸ hi)))
  · rw [List.nodup_cons]
    refine ⟨by simpa using hp'1, ?_⟩
    rw [List.flatten_append, List.nodup_append]
    refine ⟨hnd2.2, by simpa using K.own_nodup ho, ?_⟩
    intro a ha b hb e
    simp at hb
    subst e
    exact hd a hb (hin a ha)
  · intro i hi
    rcases List.mem_cons.1 hi with rfl | hi
    · rcases h5 with h5 | h5
      · cases A with
        | none => simp at h5
        | some p => simp at h5; exact .inl (by rw [hfp, h5]; simp)
      · simp at h5; exact .inr (.inr h5)
    · rw [List.flatten_append, List.mem_append] at hi
      rcases hi with hi | hi
      · exact .inl (hin i hi)
      · exact .inr (.inl (by simpa using hi))
  · refine TchF.of_grown h3 (fun p hp => ?_)
    rw [hfp, hp]; simp

theorem wp_append_LO {o : Oper} {a : Act} {Q : Exit → Act → World → Prop} {KK : Act → World → Prop} (s y : Operand)
    (hop : o.op = .call { callee := .builtin .append, args := #[s, y], argTypes := #[t, t] }) (E : ElemN P t e K.size bytes z) (hs0 : 0 < K.size)
    {gl d n : Nat} (hn : n = xs.length) (hs' : a.eval s = .slice A n c) (hx' : a.eval y = .slice (some ⟨gl, 0, none⟩) 1 d) (h : LO K e w A c xs fp) {cs : List Value} {x : α} {f : List Nat} (ho : K.own w cs x f) (hd : ∀ i ∈ f, i ∉ fp)
    (hsrc : ∀ j u, cs[j]? = some u → w.cell? ⟨gl, 0 + j, none⟩ = some u) (hb : (n + 1) * bytes ≤ 140737488355328) (hm : n + 1 ≤ 4611686018427387904)
    (hK : ∀ A' c' w' fp', ApL K e w fp f w' A' c' (xs ++ [x]) fp' → KK (a.put o.dst (.slice A' (n + 1) c')) w') : o.wp P a w KK Q := by
  subst hn
  obtain ⟨A', c', w', fp', hrun, hap⟩ := run_append_LO (ty := o.type) E hs0 h ho hd hsrc d hb hm
  unfold Oper.wp execOp
  simp only [hop, resolve, invoke, builtin, Sem.run_bind, Sem.run_pure, Result.andThen_ok, List.map_toArray, List.map_cons, List.map_nil, hs', hx', hrun]
  exact hK A' c' w' fp' hap
theorem wpList_append_LO {ops : Array Oper} {rest : List Oper} {o : Oper} {a : Act} {Q : Exit → Act → World → Prop} (hgd : o.guard = none) (s y : Operand)
    (hop : o.op = .call { callee := .builtin .append, args := #[s, y], argTypes := #[t, t] }) (E : ElemN P t e K.size bytes z) (hs0 : 0 < K.size)
    {gl d n : Nat} (hn : n = xs.length) (hs' : a.eval s = .slice A n c) (hx' : a.eval y = .slice (some ⟨gl, 0, none⟩) 1 d) (h : LO K e w A c xs fp) {cs : List Value} {x : α} {f : List Nat} (ho : K.own w cs x f) (hd : ∀ i ∈ f, i ∉ fp)
    (hsrc : ∀ j u, cs[j]? = some u → w.cell? ⟨gl, 0 + j, none⟩ = some u) (hb : (n + 1) * bytes ≤ 140737488355328) (hm : n + 1 ≤ 4611686018427387904)
    (hK : ∀ A' c' w' fp', ApL K e w fp f w' A' c' (xs ++ [x]) fp' → wpList P ops Q rest (a.put o.dst (.slice A' (n + 1) c')) w') : wpList P ops Q (o :: rest) a w :=
  wpList_plain hgd fun _ hK' => wp_append_LO s y hop E hs0 hn hs' hx' h ho hd hsrc hb hm fun A' c' w' fp' h2 => hK' _ _ (hK A' c' w' fp' h2)
end

/-- A list newly made: n elements, each the zero. -/
theorem LO.made {n g : Nat} {zc : List Value} {zero : α} (hr : w.ownsRow 0 e K.size (.slice (some ⟨g, 0, none⟩) n n) n (List.replicate n zc).flatten) (hz : ∀ w, K.own w zc zero []) : LO K e w (some ⟨g, 0, none⟩) n (List.replicate n zero) [g] := by
  refine ⟨List.replicate n zc, List.replicate n [], by simpa using hr, by simp, by simp, ?_, ?_, by simp⟩
  · intro k cs x f h1 h2 h3
    have h1 := List.mem_of_getElem? h1
    have h2 := List.mem_of_getElem? h2
    have h3 := List.mem_of_getElem? h3
    rw [List.eq_of_mem_replicate h1, List.eq_of_mem_replicate h2, List.eq_of_mem_replicate h3]
    exact hz w
  · have : (List.replicate n ([] : List Nat)).flatten = [] := by simp
    rw [this]; rfl
end
end Go.Proofs.YtnokilofcdbjhaaGreatDoor

/- Lists of numbers, lists of such lists, marks: as kinds; what the laws' helpers do with them. -/
namespace Go.Proofs.YtnokilofcdbjhaaGreatDoor
open Go.RowKit
set_option linter.unusedVariables false

def kdL : Kd (List Int) := kdList 3 kdInt
def kdLL : Kd (List (List Int)) := kdList 31 kdL

section
variable {w w' : World} {B c lo n : Nat} {A : Option Addr} {zs : List Int} {fp : List Nat}
theorem LR.sl (h : LR kdInt w B A c zs) : SlI w B A zs.length zs := by
  refine ⟨by simp, fun h0 => ?_⟩
  obtain ⟨b, off, cs, e, hb, hr, hc⟩ := h.2.2 0 zs[0] (List.getElem?_eq_getElem h0)
  refine ⟨b, off, e, hb, fun k u hu => ?_⟩
  rw [List.getElem?_map] at hu
  obtain ⟨z, hz, rfl⟩ := Option.map_eq_some_iff.1 hu
  obtain ⟨b', off', cs', e', hb', hr', hc'⟩ := h.2.2 k z hz
  rw [e] at e'
  simp only [Option.some.injEq, Addr.mk.injEq, and_true] at e'
  obtain ⟨rfl, rfl⟩ := e'
  have hr'' : cs' = [.int .i64 z] := hr'
  have := hc' 0 (.int .i64 z) (by rw [hr'']; rfl)
  rwa [show k * kdInt.size + 0 = k from by show k * 1 + 0 = k; omega] at this
theorem SlI.lr (h : SlI w B A n zs) (h1 : zs.length ≤ c) (h2 : c ≤ 9223372036854775807) : LR kdInt w B A c zs := by
  refine ⟨h1, h2, fun k x hx => ?_⟩
  have hk := (List.getElem?_eq_some_iff.1 hx).1
  have hl := h.len
  obtain ⟨b, off, e, hb, hc⟩ := h.2 (by omega)
  refine ⟨b, off, [.int .i64 x], e, hb, rfl, fun j u hu => ?_⟩
  obtain rfl : j = 0 := by have := (List.getElem?_eq_some_iff.1 hu).1; simp at this; omega
  simp at hu
  subst hu
  rw [show k * kdInt.size + 0 = k from by show k * 1 + 0 = k; omega]
  exact hc k _ (by rw [List.getElem?_map, hx]; rfl)
theorem flat_ints (css : List (List Value)) (zs : List Int) (hl : css.length = zs.length) (h : ∀ (k : Nat) (cs : List Value) (z : Int), css[k]? = some cs → zs[k]? = some z → cs = [.int .i64 z]) : css.flatten = zs.map (Value.int .i64) := by
  induction css generalizing zs with
  | nil => cases zs with
    | nil => rfl
    | cons z t => simp at hl
  | cons d t ih => cases zs with
    | nil => simp at hl
    | cons z u =>
      have h0 := h 0 d z rfl rfl
      have := ih u (by simpa using hl) (fun k cs y h1 h2 => h (k + 1) cs y (by simpa using h1) (by simpa using h2))
      rw [h0]
      simp [this]
theorem LO.own {e : TypeId} (h : LO kdInt e w A c zs fp) : OwnI e w 0 A zs.length c zs ∧ fp = (A.map (·.block)).toList := by
  obtain ⟨css, fps, hr, hl1, hl2, hown, hfp, hnd⟩ := h
  have hfps : fps.flatten = [] := by
    rw [List.flatten_eq_nil_iff]
    intro f hf
    obtain ⟨i, hi, rfl⟩ := List.getElem_of_mem hf
    exact (hown i _ _ _ (List.getElem?_eq_getElem (by omega)) (List.getElem?_eq_getElem (by omega)) (List.getElem?_eq_getElem hi)).2
  have hfl := flat_ints css zs hl1 (fun k cs z h1 h2 => by
    have hk := (List.getElem?_eq_some_iff.1 h1).1
    exact (hown k cs z _ h1 h2 (List.getElem?_eq_getElem (by omega))).1)
  rw [hfl] at hr
  exact ⟨hr, by rw [hfp, hfps]; simp⟩
theorem LO.ownLo {e : TypeId} (h : LO kdInt e w A c zs fp) (hlo : ∀ i ∈ fp, lo ≤ i) : OwnI e w lo A zs.length c zs := by
  obtain ⟨h1, h2⟩ := h.own
  refine ⟨h1.1, ?_⟩
  rcases h1.2 with hh | ⟨g, cap, cur, h3, _, r⟩
  · exact .inl hh
  · refine .inr ⟨g, cap, cur, h3, hlo g ?_, r⟩
    simp only [Value.slice.injEq] at h3
    rw [h2, h3.1]; simp
theorem OwnI.lo_ {e : TypeId} (h : OwnI e w lo A n c zs) : LO kdInt e w A c zs (A.map (·.block)).toList := by
  have hl := h.len
  refine ⟨zs.map (fun z => [Value.int .i64 z]), zs.map (fun _ => []), ?_, by simp, by simp, ?_, ?_, ?_⟩
  · have h0 : w.ownsRow 0 e 1 (.slice A n c) n (zs.map (Value.int .i64)) := Own.lower h (Nat.zero_le _)
    rw [flat_ints (zs.map (fun z => [Value.int .i64 z])) zs (by simp) (fun k cs z h1 h2 => by
      rw [List.getElem?_map, h2] at h1; simpa using h1.symm), hl]
    exact h0
  · intro k cs x f h1 h2 h3
    rw [List.getElem?_map, h2] at h1 h3
    simp at h1 h3
    exact ⟨h1.symm, h3⟩
  · have : (zs.map (fun _ => ([] : List Nat))).flatten = [] := by
      rw [List.flatten_eq_nil_iff]; simp
    rw [this]; simp
  · cases A <;> simp
theorem OwnI.fpLo {e : TypeId} (h : OwnI e w lo A n c zs) : ∀ i ∈ (A.map (·.block)).toList, lo ≤ i := by
  intro i hi
  obtain ⟨p, hp, rfl⟩ := mem_of_opt hi
  exact Own.fromLo h p hp
end

section
variable {α : Type} (P : Program) (K : Kd α) (f : FuncId)
def ToD : Prop := ∀ (w : World) (vs : List Value) (d : α), K.rd w w.heap.size vs d → K.wt d ≤ 1048576 → Calls P f #[K.val vs] w fun e w' => ∃ vs' fp, e = .returned (K.val vs') ∧ K.own w' vs' d fp ∧ (∀ i ∈ fp, w.heap.size ≤ i) ∧ Ext w w'
def EqD : Prop := ∀ (w : World) (vs vs' : List Value) (d : α), K.rd w w.heap.size vs d → K.rd w w.heap.size vs' d → K.wt d ≤ 1048576 → Calls P f #[K.val vs, K.val vs'] w fun e w' => e = .returned (.bool true) ∧ Ext w w'
def MarkD : Prop := ∀ (w : World) (vs : List Value) (d : α) (fp : List Nat) (k : Int), K.own w vs d fp → K.wt d ≤ 1048576 → 0 ≤ k → k + K.cnt d ≤ 8589934592 →
  Calls P f #[K.val vs, .int .i64 k] w fun e w' => e = .returned (.int .i64 (k + K.cnt d)) ∧ K.own w' vs (K.mrk k d) fp ∧ TchF fp w w'
def HeldD : Prop := ∀ (w : World) (vs : List Value) (d : α) (k : Int), K.rd w w.heap.size vs (K.mrk k d) → K.wt d ≤ 1048576 → 0 ≤ k → k + K.cnt d ≤ 8589934592 →
  Calls P f #[K.val vs, .int .i64 k] w fun e w' => e = .returned (.int .i64 (k + K.cnt d)) ∧ Ext w w'
def SzD : Prop := ∀ (w : World) (vs : List Value) (d : α) (l : Int), K.rd w w.heap.size vs d → 0 ≤ l → l ≤ 1048576 → Calls P f #[K.val vs, .int .i64 l] w fun e w' => e = .returned (.int .i64 (if (K.wt d : Int) ≤ l then l - K.wt d else -1)) ∧ Ext w w'
end

theorem wtL_int (zs : List Int) : wtL kdInt zs = zs.length := by
  induction zs with
  | nil => rfl
  | cons z t ih => show 1 + 0 + wtL kdInt t = t.length + 1; omega
theorem cntL_int (zs : List Int) : cntL kdInt zs = zs.length := by
  induction zs with
  | nil => rfl
  | cons z t ih => show 1 + cntL kdInt t = t.length + 1; omega
theorem upFrom_succ (k : Int) (n : Nat) : upFrom k (n + 1) = k :: upFrom (k + 1) n := by
  unfold upFrom
  rw [List.range_succ_eq_map]
  simp
  intro a _
  omega
theorem mrkL_int (k : Int) (zs : List Int) : mrkL kdInt k zs = upFrom k zs.length := by
  induction zs generalizing k with
  | nil => rfl
  | cons z t ih => show k :: mrkL kdInt (k + ((1 : Nat) : Int)) t = upFrom k (t.length + 1); rw [ih, upFrom_succ]; rfl

end Go.Proofs.YtnokilofcdbjhaaGreatDoor

/- Lists of lists, and marks: what the laws' helpers do with them. -/
namespace Go.Proofs.YtnokilofcdbjhaaGreatDoor
open Go.RowKit
set_option linter.unusedVariables false

/-- What is copied so far: the first k elements, then zeros. -/
def partG {α : Type} (z : α) (xs : List α) (k : Nat) : List α := xs.take k ++ List.replicate (xs.length - k) z
section
variable {α : Type} (z : α) (xs : List α) (k : Nat)
theorem partG_zero : partG z xs 0 = List.replicate xs.length z := by simp [partG]
theorem partG_all (h : ¬ k < xs.length) : partG z xs k = xs := by
  unfold partG
  rw [List.take_of_length_le (by omega), show xs.length - k = 0 by omega]; simp
theorem partG_len (h : k ≤ xs.length) : (partG z xs k).length = xs.length := by simp [partG]; omega
theorem partG_at (h : k < xs.length) : (partG z xs k)[k]? = some z := by
  have e : (xs.take k).length = k := by simp; omega
  unfold partG
  rw [List.getElem?_append_right (by omega), e, Nat.sub_self, List.getElem?_replicate, if_pos (by omega)]
theorem partG_set (h : k < xs.length) (x : α) (hx : xs[k]? = some x) : (partG z xs k).set k x = partG z xs (k + 1) := by
  obtain ⟨_, rfl⟩ := List.getElem?_eq_some_iff.1 hx
  have e0 : (xs.take k).length = k := by simp; omega
  have e : xs.length - k = (xs.length - (k + 1)) + 1 := by omega
  unfold partG
  rw [List.take_succ_eq_append_getElem h, List.set_append_right _ _ (by omega), e0, Nat.sub_self, e, List.replicate_succ, List.set_cons_zero, List.append_assoc]
  rfl
end
theorem flat_repl (n : Nat) (v : Value) : (List.replicate n [v]).flatten = List.replicate n v := by
  induction n with
  | zero => rfl
  | succ n ih => rw [List.replicate_succ, List.flatten_cons, ih, List.replicate_succ]; rfl
theorem wtL_len {α : Type} (K : Kd α) (xs : List α) : xs.length ≤ wtL K xs := by
  induction xs with
  | nil => simp
  | cons x t ih => show t.length + 1 ≤ 1 + K.wt x + wtL K t; omega
theorem wtL_at {α : Type} (K : Kd α) (xs : List α) (k : Nat) (x : α) (h : xs[k]? = some x) : K.wt x ≤ wtL K xs := by
  induction xs generalizing k with
  | nil => simp at h
  | cons y t ih =>
    show K.wt x ≤ 1 + K.wt y + wtL K t
    cases k with
    | zero => simp at h; subst h; omega
    | succ k => simp at h; have := ih k h; omega
theorem LO.ext {α : Type} {K : Kd α} {e : TypeId} {w w' : World} {A : Option Addr} {c : Nat} {xs : List α} {fp : List Nat} (h : LO K e w A c xs fp) (k : Ext w w') : LO K e w' A c xs fp := h.keep fun i hi => k.block i (h.lt i hi)
theorem one_cells (w : World) (g k : Nat) (v : Value) (s : Nat) (hs : s = 1) : w.setCells g (k * s) [v] = w.setCell ⟨g, k, none⟩ v := by subst hs; rw [Nat.mul_one]; rfl

theorem info_row : (Tryz.prog.info? 31).map (fun i => (i.zero, i.size, i.bytes)) = some (some (.slice none 0 0), 1, 24) := by kernel_rfl
theorem elemN_row : ElemN Tryz.prog 23 31 1 24 (.slice none 0 0) := ElemN.mk Tryz.underlying23 info_row rfl
theorem kdL.val1 (v : Value) : kdL.val [v] = v := rfl
theorem kdLL.val1 (v : Value) : kdLL.val [v] = v := rfl
theorem kdL.zero (w : World) : kdL.own w [.slice none 0 0] [] [] := ⟨none, 0, rfl, LO.none_⟩

end Go.Proofs.YtnokilofcdbjhaaGreatDoor

/- Lists of lists, and marks: compared, weighed, marked, looked at again. -/
namespace Go.Proofs.YtnokilofcdbjhaaGreatDoor
open Go.RowKit Go.Sort
set_option linter.unusedVariables false

/-- A contract that only makes memory, met inside a region that draws its order. -/
theorem ext_regrown {P : Program} {f : FuncId} {args : Array Value} {w : World} {d : Nat} {os : Array Obj} {v : Value}
    (h : Calls P f args (grow (redrawn w d) os) fun e w' => e = .returned v ∧ Ext (grow (redrawn w d) os) w') : Calls P f args (grow (redrawn w d) os) fun e w'' => e = .returned v ∧ ∃ p : Regrown, w'' = grow (redrawn w p.d) p.os :=
  Calls.regrown_of h
theorem ext_re (w : World) (d : Nat) (os : Array Obj) : Ext w (grow (redrawn w d) os) := below_regrown w d os

/-- Cells of new blocks. -/
theorem cellA {w : World} {o : Obj} {p : Addr} (h : p.block < w.heap.size) : (w.alloc o).cell? p = w.cell? p := World.cell?_alloc_lt w o p h
theorem cellN {w : World} {H : Nat} (hH : w.heap.size = H) (cs : Array Value) (t : TypeId) (i : Nat) : (w.alloc (.cells cs t)).cell? ⟨H, i, none⟩ = cs[i]? := by
  subst hH; exact cell_of_row _ _ i cs t (0, 0) (heap_alloc_new w _)
theorem freeA {w : World} {o : Obj} {p : Addr} (h : p.block < w.heap.size) : (w.alloc o).frozen? p = w.frozen? p := World.frozen?_of_block (w := w) (Below.heap_alloc w o p.block h)
theorem freeN {w : World} {H : Nat} (hH : w.heap.size = H) (cs : Array Value) (t : TypeId) (i : Nat) : (w.alloc (.cells cs t)).frozen? ⟨H, i, none⟩ = false := by
  subst hH; exact frozen_of_row _ _ i cs t (heap_alloc_new w _)
theorem cellS {w : World} {p q : Addr} {u : Value} (h : p ≠ q) : (w.setCell q u).cell? p = w.cell? p := World.cell?_setCell_other w q p u (Ne.symm h)
theorem freeS {w : World} {p q : Addr} {u : Value} (h : p.block ≠ q.block) : (w.setCell q u).frozen? p = w.frozen? p := World.frozen?_of_block (w := w) (Below.heap_setCell w q u p.block h)

/-- A block that is known whole: a variable of the call's own. -/
def Blk (w : World) (g : Nat) (cs : Array Value) (t : TypeId) : Prop := w.heap[g]? = some (.cells cs t (0, 0))
section
variable {w w' : World} {g : Nat} {cs : Array Value} {t : TypeId}
theorem Blk.lt (h : Blk w g cs t) : g < w.heap.size := by
  rcases Nat.lt_or_ge g w.heap.size with hlt | hge
  · exact hlt
  · unfold Blk at h; rw [Array.getElem?_eq_none hge] at h; cases h
theorem Blk.cell (h : Blk w g cs t) (i : Nat) : w.cell? ⟨g, i, none⟩ = cs[i]? := cell_of_row w g i cs t (0, 0) h
theorem Blk.free (h : Blk w g cs t) (i : Nat) : w.frozen? ⟨g, i, none⟩ = false := frozen_of_row w g i cs t h
theorem Blk.new {H : Nat} (hH : w.heap.size = H) (cs : Array Value) (t : TypeId) : Blk (w.alloc (.cells cs t)) H cs t := by subst hH; exact heap_alloc_new w _
theorem Blk.alloc (h : Blk w g cs t) (o : Obj) : Blk (w.alloc o) g cs t := (Below.heap_alloc w o g h.lt).trans h
theorem Blk.ext (h : Blk w g cs t) (k : Ext w w') : Blk w' g cs t := (k.block g h.lt).trans h
theorem Blk.tchF {fp : List Nat} (h : Blk w g cs t) (k : TchF fp w w') (hg : g ∉ fp) : Blk w' g cs t := (k.block g h.lt hg).trans h
theorem Blk.set (h : Blk w g cs t) (i : Nat) (u : Value) : Blk (w.setCell ⟨g, i, none⟩ u) g (cs.setIfInBounds i u) t := heap_setCell_same w g i cs t u h
theorem Blk.far (h : Blk w g cs t) {p : Addr} (hp : g ≠ p.block) (u : Value) : Blk (w.setCell p u) g cs t := (Below.heap_setCell w p u g hp).trans h
theorem Blk.tch {lo hi : Nat} (h : Blk w g cs t) (k : Tch lo hi w w') (hg : g < lo ∨ hi ≤ g) : Blk w' g cs t := (k.block g h.lt (by omega)).trans h
end

theorem cntL_at {α : Type} (K : Kd α) (xs : List α) (k : Nat) (x : α) (h : xs[k]? = some x) : cntL K (xs.take k) + K.cnt x ≤ cntL K xs := by
  induction xs generalizing k with
  | nil => simp at h
  | cons y t ih =>
    cases k with
    | zero => simp at h; subst h; show 0 + K.cnt y ≤ K.cnt y + cntL K t; omega
    | succ k => simp at h; have := ih k h; show K.cnt y + cntL K (t.take k) + K.cnt x ≤ K.cnt y + cntL K t; omega
theorem cntL_succ {α : Type} (K : Kd α) (xs : List α) (k : Nat) (x : α) (h : xs[k]? = some x) : cntL K (xs.take (k + 1)) = cntL K (xs.take k) + K.cnt x := by
  induction xs generalizing k with
  | nil => simp at h
  | cons y t ih =>
    cases k with
    | zero => simp at h; subst h; show K.cnt y + 0 = 0 + K.cnt y; omega
    | succ k => simp at h; have := ih k h; show K.cnt y + cntL K (t.take (k + 1)) = K.cnt y + cntL K (t.take k) + K.cnt x; omega
theorem wtL_succ {α : Type} (K : Kd α) (xs : List α) (k : Nat) (x : α) (h : xs[k]? = some x) : wtL K (xs.take (k + 1)) = wtL K (xs.take k) + (1 + K.wt x) := by
  induction xs generalizing k with
  | nil => simp at h
  | cons y t ih =>
    cases k with
    | zero => simp at h; subst h; show 1 + K.wt y + 0 = 0 + (1 + K.wt y); omega
    | succ k => simp at h; have := ih k h; show 1 + K.wt y + wtL K (t.take (k + 1)) = 1 + K.wt y + wtL K (t.take k) + (1 + K.wt x); omega
theorem wtL_take_le {α : Type} (K : Kd α) (xs : List α) (k : Nat) : wtL K (xs.take k) + (xs.length - k) ≤ wtL K xs := by
  induction xs generalizing k with
  | nil => simp
  | cons y t ih =>
    cases k with
    | zero => have := wtL_len K (y :: t); show 0 + (t.length + 1 - 0) ≤ _; simp at this; omega
    | succ k => have := ih k; show 1 + K.wt y + wtL K (t.take k) + (t.length + 1 - (k + 1)) ≤ 1 + K.wt y + wtL K t; omega
/-- The list in which the first j elements have been marked. -/
def mkd {α : Type} (K : Kd α) (k : Int) (xs : List α) (j : Nat) : List α := mrkL K k (xs.take j) ++ xs.drop j
theorem mrkL_len {α : Type} (K : Kd α) (k : Int) (xs : List α) : (mrkL K k xs).length = xs.length := by
  induction xs generalizing k with
  | nil => rfl
  | cons y t ih => show (mrkL K _ t).length + 1 = t.length + 1; rw [ih]
theorem mkd_len {α : Type} (K : Kd α) (k : Int) (xs : List α) (j : Nat) : (mkd K k xs j).length = xs.length := by
  unfold mkd; rw [List.length_append, mrkL_len]; simp; omega
theorem mrkL_app {α : Type} (K : Kd α) (k : Int) (xs : List α) (x : α) : mrkL K k (xs ++ [x]) = mrkL K k xs ++ [K.mrk (k + cntL K xs) x] := by
  induction xs generalizing k with
  | nil => show [K.mrk k x] = [K.mrk (k + ((0 : Nat) : Int)) x]; simp
  | cons y t ih =>
    show K.mrk k y :: mrkL K (k + K.cnt y) (t ++ [x]) = K.mrk k y :: (mrkL K (k + K.cnt y) t ++ [K.mrk (k + ((K.cnt y + cntL K t : Nat) : Int)) x])
    rw [ih]
    congr 3
    congr 1
    omega
theorem mkd_at {α : Type} (K : Kd α) (k : Int) (xs : List α) (j : Nat) (x : α) (h : xs[j]? = some x) : (mkd K k xs j)[j]? = some x := by
  have hj := (List.getElem?_eq_some_iff.1 h).1
  have e : (mrkL K k (xs.take j)).length = j := by rw [mrkL_len]; simp; omega
  unfold mkd
  rw [List.getElem?_append_right (by omega), e, Nat.sub_self, List.getElem?_drop, Nat.add_zero, h]
theorem mkd_set {α : Type} (K : Kd α) (k : Int) (xs : List α) (j : Nat) (x : α) (h : xs[j]? = some x) : (mkd K k xs j).set j (K.mrk (k + cntL K (xs.take j)) x) = mkd K k xs (j + 1) := by
  obtain ⟨hj, hx⟩ := List.getElem?_eq_some_iff.1 h
  have e : (mrkL K k (xs.take j)).length = j := by rw [mrkL_len]; simp; omega
  unfold mkd
  rw [List.set_append_right _ _ (by omega), e, Nat.sub_self, List.drop_eq_getElem_cons hj, List.set_cons_zero, List.take_succ_eq_append_getElem hj, mrkL_app, hx, List.append_assoc]
  rfl
theorem mkd_all {α : Type} (K : Kd α) (k : Int) (xs : List α) (j : Nat) (h : ¬ j < xs.length) : mkd K k xs j = mrkL K k xs := by
  unfold mkd
  rw [List.take_of_length_le (by omega), List.drop_eq_nil_of_le (by omega)]; simp
theorem mrkL_at {α : Type} (K : Kd α) (k : Int) (xs : List α) (j : Nat) (x : α) (h : xs[j]? = some x) : (mrkL K k xs)[j]? = some (K.mrk (k + cntL K (xs.take j)) x) := by
  induction xs generalizing k j with
  | nil => simp at h
  | cons y t ih =>
    cases j with
    | zero => simp at h; subst h; show some (K.mrk k y) = some (K.mrk (k + ((0 : Nat) : Int)) y); simp
    | succ j =>
      simp at h
      show (mrkL K (k + K.cnt y) t)[j]? = _
      rw [ih _ j h]
      show some (K.mrk (k + K.cnt y + cntL K (t.take j)) x) = some (K.mrk (k + ((K.cnt y + cntL K (t.take j) : Nat) : Int)) x)
      congr 2
      omega

end Go.Proofs.YtnokilofcdbjhaaGreatDoor
