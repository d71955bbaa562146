/- Marks cleared; MarkLosses. -/
import Derived.Test.YtaoeomgehpdedaaGreatRV
namespace Go.Proofs.YtaoeomgehpdedaaGreat
open Go.RowKit Go.Sort
set_option linter.unusedVariables false

def mapTo {α : Type} (f : α → α) (xs : List α) (k : Nat) : List α := (xs.take k).map f ++ xs.drop k
theorem mapTo_zero {α : Type} (f : α → α) (xs : List α) : mapTo f xs 0 = xs := by simp [mapTo]
theorem mapTo_all {α : Type} (f : α → α) (xs : List α) (k : Nat) (h : ¬ k < xs.length) : mapTo f xs k = xs.map f := by
  unfold mapTo
  rw [List.take_of_length_le (by omega), List.drop_eq_nil_of_le (by omega), List.append_nil]
theorem mapTo_len {α : Type} (f : α → α) (xs : List α) (k : Nat) : (mapTo f xs k).length = xs.length := by
  simp [mapTo]; omega
theorem mapTo_at {α : Type} (f : α → α) (xs : List α) (k : Nat) (x : α) (h : xs[k]? = some x) : (mapTo f xs k)[k]? = some x := by
  obtain ⟨hk, rfl⟩ := List.getElem?_eq_some_iff.1 h
  unfold mapTo
  rw [List.getElem?_append_right (by simp; omega)]
  simp [Nat.min_eq_left (Nat.le_of_lt hk)]
theorem mapTo_set {α : Type} (f : α → α) (xs : List α) (k : Nat) (x : α) (h : xs[k]? = some x) : (mapTo f xs k).set k (f x) = mapTo f xs (k + 1) := by
  obtain ⟨hk, rfl⟩ := List.getElem?_eq_some_iff.1 h
  unfold mapTo
  rw [List.take_succ_eq_append_getElem hk, List.map_append, List.set_append_right _ _ (by simp; omega), List.drop_eq_getElem_cons hk]
  have e : k - ((List.take k xs).map f).length = 0 := by simp; omega
  rw [e, List.set_cons_zero]
  simp

theorem TchF.setCells {fp : List Nat} {b : Nat} (hp : b ∈ fp) : ∀ (vs : List Value) (o : Nat) (w : World), TchF fp w (w.setCells b o vs)
  | [], _, w => TchF.refl _ _
  | v :: r, o, w => (TchF.set1 w ⟨b, o, none⟩ v hp).trans (TchF.setCells hp r (o + 1) _)
theorem cleanD_ok {d : CoD} {x : ItD} (h : ItOk d x) : ItOk d (cleanD x) := ⟨h.n1, h.n3, by simp [cleanD], h.kn⟩
theorem clean_ls {d : CoD} {xs : List ItD} (h : LsOk d xs) : LsOk d (xs.map cleanD) := by
  refine ⟨by rw [List.length_map]; exact h.n, fun k x hx => ?_⟩
  rw [List.getElem?_map] at hx
  obtain ⟨y, hy, rfl⟩ := Option.map_eq_some_iff.1 hx
  exact cleanD_ok (h.it k y hy)
def lossA (d : CoD) (xs : List ItD) (k i : Nat) : Int := baseF d (xs.map cleanD) i - (if i < k then baseF d xs i else 0)
def lossN (d : CoD) (xs : List ItD) (k : Nat) : List Int := (List.range xs.length).map (lossA d xs k)
theorem lossN_len (d : CoD) (xs : List ItD) (k : Nat) : (lossN d xs k).length = xs.length := by simp [lossN]
theorem lossN_zero (d : CoD) (xs : List ItD) : basesF d (xs.map cleanD) = lossN d xs 0 := by
  unfold basesF basesN lossN
  rw [List.length_map]
  refine List.map_congr_left fun i _ => ?_
  unfold lossA
  rw [if_neg (by omega)]
  omega
theorem lossN_at {d : CoD} {xs : List ItD} {k : Nat} (h : k < xs.length) : (lossN d xs k).getD k 0 = baseF d (xs.map cleanD) k := by
  unfold lossN
  rw [List.getD_eq_getElem?_getD, List.getElem?_map, List.getElem?_range h]
  simp [lossA]
theorem lossN_succ {d : CoD} {xs : List ItD} {k : Nat} (h : k < xs.length) : lossN d xs (k + 1) = (lossN d xs k).set k (baseF d (xs.map cleanD) k - baseF d xs k) := by
  apply List.ext_getElem?
  intro i
  rw [List.getElem?_set, lossN_len]
  unfold lossN
  rw [List.getElem?_map, List.getElem?_map]
  by_cases hi : i < xs.length
  · rw [List.getElem?_range hi]
    simp only [Option.map_some]
    by_cases hk : k = i
    · subst hk
      rw [if_pos rfl, if_pos h]
      simp [lossA]
    · rw [if_neg hk]
      unfold lossA
      congr 2
      by_cases h1 : i < k
      · rw [if_pos (by omega), if_pos h1]
      · rw [if_neg (by omega), if_neg h1]
  · rw [List.getElem?_eq_none (l := List.range xs.length) (by simp; omega)]
    rw [if_neg (by omega)]
    rfl
def lossLaw (d : CoD) (xs : List ItD) : List Int × Bool := if codeB d && itemsB xs && knownB d.1 xs then (lossN d xs xs.length, true) else ([], false)
/-- The marks of one item in a list of the call's own cleared. -/
theorem LO.clearI {w : World} {A : Option Addr} {c : Nat} {xs : List ItD} {fp : List Nat} (h : LO kdItem 47 w A c xs fp) (k : Nat) (x : ItD) (hx : xs[k]? = some x) (hm : x.2.1.length = x.1.length) :
    ∃ g A2 c2 w2, A = some ⟨g, 0, none⟩ ∧ w.cell? ⟨g, k * 3 + 1, none⟩ = some (.slice A2 x.2.1.length c2) ∧ (∀ ty, (Builtin.clear_ #[24] ty #[.slice A2 x.2.1.length c2]).run Tryz.prog w = .ok (.tuple #[]) w2) ∧ LO kdItem 47 w2 A c (xs.set k (cleanD x)) fp ∧ TchF fp w w2 := by
  obtain ⟨g, cs, f, hat⟩ := h.at_ k x hx
  obtain ⟨v1, v2, f1, f2, hcs0, ⟨A1, c1, rfl, l1⟩, ⟨v3, v4, f3, f4, rfl, ⟨A2, c2, rfl, l2⟩, ⟨h4, rfl⟩, hf2, _⟩, hf, hnd⟩ := hat.own
  have h4 : v4 = [.bool x.2.2] := h4
  subst h4
  simp only [List.append_nil] at hf2
  subst hf2
  have hcs0 : cs = [.slice A1 x.1.length c1, .slice A2 x.2.1.length c2, .bool x.2.2] := hcs0
  subst hcs0
  subst hf
  have hdj : ∀ i ∈ f1, i ∉ f2 := by rw [List.nodup_append] at hnd; exact fun i hi hi' => hnd.2.2 i hi i hi' rfl
  obtain ⟨o2, hf2⟩ := l2.own
  rcases Nat.eq_zero_or_pos x.2.1.length with h0 | h0
  · refine ⟨g, A2, c2, w, hat.addr, hat.cell 1 _ rfl, fun ty => ?_, ?_, TchF.refl _ _⟩
    · rw [h0]
      cases A2 <;> simp [Builtin.clear_, run_underlying Tryz.underlying24]
    · have e : cleanD x = x := by
        obtain ⟨a, b, q⟩ := x
        simp only [cleanD] at h0 hm ⊢
        rw [← hm, h0, List.replicate_zero, List.eq_nil_of_length_eq_zero h0]
      rw [e]
      have := hat.inplace w x hat.own (TchF.refl _ _)
      exact this
  · obtain ⟨gx, rfl, hg1, hg2, hc⟩ := o2.pos h0
    have hm2 : gx ∈ f2 := by rw [hf2]; simp
    refine ⟨g, _, c2, _, hat.addr, hat.cell 1 _ rfl, fun ty => Lib.run_clear_slice w _ _ ty _ Tryz.underlying24 zero_int rfl rfl gx 0 _ _ h0 (fun j hj => by rw [Nat.zero_add, o2.cell j hj]; rfl) (fun j hj => o2.free _), ?_, ?_⟩
    · have hk : ∀ i, i ≠ gx → (w.setCells gx 0 (List.replicate x.2.1.length (.int .i64 0))).heap[i]? = w.heap[i]? := fun i hi => heap_setCells_far _ 0 w hi
      have ht : TchF f2 w (w.setCells gx 0 (List.replicate x.2.1.length (.int .i64 0))) := TchF.setCells hm2 _ _ w
      refine hat.inplace _ _ ?_ (ht.more fun i hi => List.mem_append_right _ hi)
      have l1' : LO kdS 9 (w.setCells gx 0 (List.replicate x.2.1.length (.int .i64 0))) A1 c1 x.1 f1 := l1.keep (fun i hi => hk i (fun e => hdj i hi (e ▸ hm2)))
      have o3 := ownsRow_setCells (List.replicate x.2.1.length (Value.int .i64 0)) 0 (show w.ownsRow 0 3 1 (.slice (some ⟨gx, 0, none⟩) x.2.1.length c2) x.2.1.length (x.2.1.map (Value.int .i64)) from o2)
      rw [setL_eq _ _ _ (by simp)] at o3
      simp only [List.take_zero, List.nil_append, List.length_replicate, Nat.zero_add] at o3
      rw [List.drop_eq_nil_of_le (by simp), List.append_nil] at o3
      have o4 : OwnI 3 (w.setCells gx 0 (List.replicate x.2.1.length (.int .i64 0))) 0 (some ⟨gx, 0, none⟩) x.2.1.length c2 (List.replicate x.2.1.length 0) := by
        show Own _ _ _ _ _ _ _
        rw [List.map_replicate]
        exact o3
      have ho := kdItem.mkOwn (d := cleanD x) l1' (by show LO kdInt _ _ _ _ (List.replicate x.1.length 0) _; rw [hf2, ← hm]; exact o4.lo_) hdj
      simp only [cleanD, List.length_replicate] at ho
      rw [← hm] at ho
      rw [hm] at ho ⊢
      simpa [cleanD, hm] using ho
    · exact (TchF.setCells hm2 _ _ w).more fun i hi => (hat.sub i (List.mem_append_right _ hi)).1

end Go.Proofs.YtaoeomgehpdedaaGreat
