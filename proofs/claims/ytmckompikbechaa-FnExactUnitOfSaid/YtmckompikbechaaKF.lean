/- Lists of numbers, lists of such lists, marks: as kinds; what the laws' helpers do with them. -/
import Derived.Test.YtmckompikbechaaKE
import Derived.Test.YtmckompikbechaaTC
namespace Go.Proofs.Ytmckompikbechaa
open Go.RowKit
set_option linter.unusedVariables false

def kdL : Kd (List Int) := kdList 3 kdInt
def kdLL : Kd (List (List Int)) := kdList 51 kdL

section
variable {w w' : World} {B c lo n : Nat} {A : Option Addr} {zs : List Int} {fp : List Nat}
theorem LR.sl (h : LR kdInt w B A c zs) : SlI w B A zs.length zs := by
  refine ⟨by simp, fun h0 => ?_⟩
  obtain ⟨b, off, cs, e, hb, hr, hc⟩ := h.2.2 0 zs[0] (List.getElem?_eq_getElem h0)
  refine ⟨b, off, e, hb, fun k u hu => ?_⟩
  rw [List.getElem?_map] at hu
  obtain ⟨z, hz, rfl⟩ := Option.map_eq_some_iff.1 hu
  obtain ⟨b', off', cs', e', hb', hr', hc'⟩ := h.2.2 k z hz
  rw [e] at e'
  simp only [Option.some.injEq, Addr.mk.injEq, and_true] at e'
  obtain ⟨rfl, rfl⟩ := e'
  have hr'' : cs' = [.int .i64 z] := hr'
  have := hc' 0 (.int .i64 z) (by rw [hr'']; rfl)
  rwa [show k * kdInt.size + 0 = k from by show k * 1 + 0 = k; omega] at this
theorem SlI.lr (h : SlI w B A n zs) (h1 : zs.length ≤ c) (h2 : c ≤ 9223372036854775807) : LR kdInt w B A c zs := by
  refine ⟨h1, h2, fun k x hx => ?_⟩
  have hk := (List.getElem?_eq_some_iff.1 hx).1
  have hl := h.len
  obtain ⟨b, off, e, hb, hc⟩ := h.2 (by omega)
  refine ⟨b, off, [.int .i64 x], e, hb, rfl, fun j u hu => ?_⟩
  obtain rfl : j = 0 := by have := (List.getElem?_eq_some_iff.1 hu).1; simp at this; omega
  simp at hu
  subst hu
  rw [show k * kdInt.size + 0 = k from by show k * 1 + 0 = k; omega]
  exact hc k _ (by rw [List.getElem?_map, hx]; rfl)
theorem flat_ints (css : List (List Value)) (zs : List Int) (hl : css.length = zs.length) (h : ∀ (k : Nat) (cs : List Value) (z : Int), css[k]? = some cs → zs[k]? = some z → cs = [.int .i64 z]) : css.flatten = zs.map (Value.int .i64) := by
  induction css generalizing zs with
  | nil => cases zs with
    | nil => rfl
    | cons z t => simp at hl
  | cons d t ih => cases zs with
    | nil => simp at hl
    | cons z u =>
      have h0 := h 0 d z rfl rfl
      have := ih u (by simpa using hl) (fun k cs y h1 h2 => h (k + 1) cs y (by simpa using h1) (by simpa using h2))
      rw [h0]
      simp [this]
theorem LO.own {e : TypeId} (h : LO kdInt e w A c zs fp) : OwnI e w 0 A zs.length c zs ∧ fp = (A.map (·.block)).toList := by
  obtain ⟨css, fps, hr, hl1, hl2, hown, hfp, hnd⟩ := h
  have hfps : fps.flatten = [] := by
    rw [List.flatten_eq_nil_iff]
    intro f hf
    obtain ⟨i, hi, rfl⟩ := List.getElem_of_mem hf
    exact (hown i _ _ _ (List.getElem?_eq_getElem (by omega)) (List.getElem?_eq_getElem (by omega)) (List.getElem?_eq_getElem hi)).2
  have hfl := flat_ints css zs hl1 (fun k cs z h1 h2 => by
    have hk := (List.getElem?_eq_some_iff.1 h1).1
    exact (hown k cs z _ h1 h2 (List.getElem?_eq_getElem (by omega))).1)
  rw [hfl] at hr
  exact ⟨hr, by rw [hfp, hfps]; simp⟩
theorem LO.ownLo {e : TypeId} (h : LO kdInt e w A c zs fp) (hlo : ∀ i ∈ fp, lo ≤ i) : OwnI e w lo A zs.length c zs := by
  obtain ⟨h1, h2⟩ := h.own
  refine ⟨h1.1, ?_⟩
  rcases h1.2 with hh | ⟨g, cap, cur, h3, _, r⟩
  · exact .inl hh
  · refine .inr ⟨g, cap, cur, h3, hlo g ?_, r⟩
    simp only [Value.slice.injEq] at h3
    rw [h2, h3.1]; simp
theorem OwnI.lo_ {e : TypeId} (h : OwnI e w lo A n c zs) : LO kdInt e w A c zs (A.map (·.block)).toList := by
  have hl := h.len
  refine ⟨zs.map (fun z => [Value.int .i64 z]), zs.map (fun _ => []), ?_, by simp, by simp, ?_, ?_, ?_⟩
  · have h0 : w.ownsRow 0 e 1 (.slice A n c) n (zs.map (Value.int .i64)) := Own.lower h (Nat.zero_le _)
    rw [flat_ints (zs.map (fun z => [Value.int .i64 z])) zs (by simp) (fun k cs z h1 h2 => by
      rw [List.getElem?_map, h2] at h1; simpa using h1.symm), hl]
    exact h0
  · intro k cs x f h1 h2 h3
    rw [List.getElem?_map, h2] at h1 h3
    simp at h1 h3
    exact ⟨h1.symm, h3⟩
  · have : (zs.map (fun _ => ([] : List Nat))).flatten = [] := by
      rw [List.flatten_eq_nil_iff]; simp
    rw [this]; simp
  · cases A <;> simp
theorem OwnI.fpLo {e : TypeId} (h : OwnI e w lo A n c zs) : ∀ i ∈ (A.map (·.block)).toList, lo ≤ i := by
  intro i hi
  obtain ⟨p, hp, rfl⟩ := mem_of_opt hi
  exact Own.fromLo h p hp
end

section
variable {α : Type} (P : Program) (K : Kd α) (f : FuncId)
def ToD : Prop := ∀ (w : World) (vs : List Value) (d : α), K.rd w w.heap.size vs d → K.wt d ≤ 1048576 → Calls P f #[K.val vs] w fun e w' => ∃ vs' fp, e = .returned (K.val vs') ∧ K.own w' vs' d fp ∧ (∀ i ∈ fp, w.heap.size ≤ i) ∧ Ext w w'
def EqD : Prop := ∀ (w : World) (vs vs' : List Value) (d : α), K.rd w w.heap.size vs d → K.rd w w.heap.size vs' d → K.wt d ≤ 1048576 → Calls P f #[K.val vs, K.val vs'] w fun e w' => e = .returned (.bool true) ∧ Ext w w'
def MarkD : Prop := ∀ (w : World) (vs : List Value) (d : α) (fp : List Nat) (k : Int), K.own w vs d fp → K.wt d ≤ 1048576 → 0 ≤ k → k + K.cnt d ≤ 8589934592 →
  Calls P f #[K.val vs, .int .i64 k] w fun e w' => e = .returned (.int .i64 (k + K.cnt d)) ∧ K.own w' vs (K.mrk k d) fp ∧ TchF fp w w'
def HeldD : Prop := ∀ (w : World) (vs : List Value) (d : α) (k : Int), K.rd w w.heap.size vs (K.mrk k d) → K.wt d ≤ 1048576 → 0 ≤ k → k + K.cnt d ≤ 8589934592 →
  Calls P f #[K.val vs, .int .i64 k] w fun e w' => e = .returned (.int .i64 (k + K.cnt d)) ∧ Ext w w'
def SzD : Prop := ∀ (w : World) (vs : List Value) (d : α) (l : Int), K.rd w w.heap.size vs d → 0 ≤ l → l ≤ 1048576 → Calls P f #[K.val vs, .int .i64 l] w fun e w' => e = .returned (.int .i64 (if (K.wt d : Int) ≤ l then l - K.wt d else -1)) ∧ Ext w w'
end

theorem wtL_int (zs : List Int) : wtL kdInt zs = zs.length := by
  induction zs with
  | nil => rfl
  | cons z t ih => show 1 + 0 + wtL kdInt t = t.length + 1; omega
theorem cntL_int (zs : List Int) : cntL kdInt zs = zs.length := by
  induction zs with
  | nil => rfl
  | cons z t ih => show 1 + cntL kdInt t = t.length + 1; omega
theorem upFrom_succ (k : Int) (n : Nat) : upFrom k (n + 1) = k :: upFrom (k + 1) n := by
  unfold upFrom
  rw [List.range_succ_eq_map]
  simp
  intro a _
  omega
theorem mrkL_int (k : Int) (zs : List Int) : mrkL kdInt k zs = upFrom k zs.length := by
  induction zs generalizing k with
  | nil => rfl
  | cons z t ih => show k :: mrkL kdInt (k + ((1 : Nat) : Int)) t = upFrom k (t.length + 1); rw [ih, upFrom_succ]; rfl

theorem kdL.to_ : ToD Try.prog kdL 84 := by
  rintro w vs d ⟨A, c, rfl, h⟩ hn
  have hn' : d.length ≤ 1048576 := by rw [← wtL_int]; exact hn
  refine (l.toIntS_any _ _ _ _ d _ h.sl (Nat.le_refl _) hn').mono ?_
  rintro e w' ⟨A', c', rfl, ho, hx⟩
  exact ⟨[.slice A' d.length c'], _, rfl, ⟨A', c', rfl, ho.lo_⟩, ho.fpLo, hx⟩
theorem kdL.eq_ : EqD Try.prog kdL 45 := by
  rintro w vs vs' d ⟨A, c, rfl, h⟩ ⟨A', c', rfl, h'⟩ hn
  have hn' : d.length ≤ 1048576 := by rw [← wtL_int]; exact hn
  exact l.eqIntS_ext _ _ _ _ _ _ _ d _ h.sl h'.sl hn'
theorem kdL.mark : MarkD Try.prog kdL 47 := by
  rintro w vs d fp k ⟨A, c, rfl, h⟩ hn hk0 hk1
  have hn' : d.length ≤ 1048576 := by rw [← wtL_int]; exact hn
  have hc : kdL.cnt d = d.length := cntL_int d
  rw [hc] at hk1 ⊢
  obtain ⟨ho, hfp⟩ := h.own
  refine (l.markIntS_any _ _ _ _ d k _ ho hn' hk0 (by omega)).mono ?_
  rintro e w' ⟨rfl, ho', hg⟩
  refine ⟨rfl, ⟨A, c, ?_, ?_⟩, ?_⟩
  · show [Value.slice A d.length c] = [.slice A (mrkL kdInt k d).length c]
    rw [mrkL_int, upFrom_len]
  · show LO kdInt _ _ _ _ (mrkL kdInt k d) _
    rw [mrkL_int, hfp]
    exact ho'.lo_
  · exact TchF.of_grown hg (fun p hp => by rw [hfp, hp]; simp)
theorem kdL.held : HeldD Try.prog kdL 48 := by
  rintro w vs d k ⟨A, c, hv, h⟩ hn hk0 hk1
  have hn' : d.length ≤ 1048576 := by rw [← wtL_int]; exact hn
  have hc : kdL.cnt d = d.length := cntL_int d
  rw [hc] at hk1 ⊢
  have hm : kdL.mrk k d = upFrom k d.length := mrkL_int k d
  rw [hm] at hv h
  rw [upFrom_len] at hv
  subst hv
  have hs := h.sl
  rw [upFrom_len] at hs
  refine (l.heldIntS_same _ _ _ _ k _ hs hn' hk0 (by omega)).mono ?_
  rintro e w' ⟨rfl, rfl⟩
  exact ⟨rfl, Ext.refl _⟩
theorem kdL.sz : SzD Try.prog kdL 80 := by
  rintro w vs d l ⟨A, c, rfl, h⟩ hl0 hl1
  have hw : (kdL.wt d : Int) = d.length := by have := wtL_int d; show ((wtL kdInt d : Nat) : Int) = _; omega
  have hcap := h.1
  have hcm := h.2.1
  rw [hw]
  show Calls _ _ #[.slice A d.length c, .int .i64 l] _ _
  by_cases hle : (d.length : Int) ≤ l
  · rw [if_pos hle]
    go_enter Try.func80, Try.ntmps80
    go_wp2
    go_ret
    exact ⟨rfl, Ext.refl _⟩
  · rw [if_neg hle]
    go_enter Try.func80, Try.ntmps80
    go_wp2
    go_ret
    exact ⟨rfl, Ext.refl _⟩
end Go.Proofs.Ytmckompikbechaa
