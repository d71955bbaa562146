/- Texts and items in new memory. -/
import Derived.Test.YtmckompikbechaaOV
import Derived.Test.YtmckompikbechaaT4
import Derived.Test.YtmckompikbechaaNS
import Derived.Deep.RegionHeld3
namespace Go.Proofs.Ytmckompikbechaa
open Go.RowKit Go.Sort
set_option linter.unusedVariables false

def strV (x : List UInt8) : Value := .string (bs x)
theorem LR.slS {w : World} {B c : Nat} {A : Option Addr} {xs : List (List UInt8)} (h : LR kdS w B A c xs) : Sl w B A xs.length (xs.map strV) := by
  refine ⟨by simp, fun h0 => ?_⟩
  obtain ⟨b, off, e, hb, _, _⟩ := h.str 0 xs[0] (List.getElem?_eq_getElem h0)
  refine ⟨b, off, e, hb, fun k u hu => ?_⟩
  rw [List.getElem?_map] at hu
  obtain ⟨z, hz, rfl⟩ := Option.map_eq_some_iff.1 hu
  obtain ⟨b', off', e', hb', hc', _⟩ := h.str k z hz
  rw [e] at e'
  simp only [Option.some.injEq, Addr.mk.injEq, and_true] at e'
  obtain ⟨rfl, rfl⟩ := e'
  exact hc'
theorem LR.lenS {w : World} {B c : Nat} {A : Option Addr} {xs : List (List UInt8)} (h : LR kdS w B A c xs) : ∀ x ∈ xs, x.length ≤ 9223372036854775807 := by
  intro x hx
  obtain ⟨k, hk⟩ := List.getElem?_of_mem hx
  obtain ⟨_, _, _, _, _, hl⟩ := h.str k x hk
  exact hl
theorem Own.loS {w : World} {lo n c : Nat} {A : Option Addr} {xs : List (List UInt8)} (h : Own 9 w lo A n c (xs.map strV)) (hx : ∀ x ∈ xs, x.length ≤ 9223372036854775807) : LO kdS 9 w A c xs (A.map (·.block)).toList := by
  have hl : xs.length = n := by have := h.len; simpa using this
  refine ⟨xs.map (fun x => [strV x]), xs.map (fun _ => []), ?_, by simp, by simp, ?_, ?_, ?_⟩
  · have h0 : w.ownsRow 0 9 1 (.slice A n c) n (xs.map strV) := Own.lower h (Nat.zero_le _)
    have e : (xs.map (fun x => [strV x])).flatten = xs.map strV := by
      clear h h0 hx hl
      induction xs with
      | nil => rfl
      | cons x t ih => simp [ih]
    rw [e, hl]
    exact h0
  · intro k cs x f h1 h2 h3
    rw [List.getElem?_map, h2] at h1 h3
    simp at h1 h3
    exact ⟨⟨h1.symm, hx x (List.mem_of_getElem? h2)⟩, h3⟩
  · have : (xs.map (fun _ => ([] : List Nat))).flatten = [] := by
      rw [List.flatten_eq_nil_iff]; simp
    rw [this]; simp
  · cases A <;> simp
theorem elem_str : Elem Try.prog 65 9 16 := Elem.mk Try.underlying65 info_str rfl
theorem oneCell_strs (xs : List (List UInt8)) : ∀ u ∈ xs.map strV, u.oneCell' = true := by
  intro u hu
  obtain ⟨x, _, rfl⟩ := List.mem_map.1 hu
  simp [strV, Value.oneCell']
theorem Own.fpLoS {e : TypeId} {w : World} {lo n c : Nat} {A : Option Addr} {vs : List Value} (h : Own e w lo A n c vs) : ∀ i ∈ (A.map (·.block)).toList, lo ≤ i := by
  intro i hi
  obtain ⟨p, hp, rfl⟩ := mem_of_opt hi
  exact Own.fromLo h p hp

set_option maxHeartbeats 1000000 in
theorem s.l1OwnS_any (A : Option Addr) (c B : Nat) (xs : List (List UInt8)) (w : World) (h : LR kdS w B A c xs) (hB : B ≤ w.heap.size) (hn : xs.length ≤ 1048576) :
    Calls Try.prog 151 #[.slice A xs.length c] w fun e w' => ∃ A' c', e = .returned (.slice A' xs.length c') ∧ Own 9 w' w.heap.size A' xs.length c' (xs.map strV) ∧ Ext w w' := by
  have SL := hide h.slS
  have a1 := h.1; have a2 := h.2.1
  clear h
  obtain ⟨n, hl⟩ : ∃ n, Hid (xs.length = n) := ⟨_, rfl⟩
  rw [hl.out] at SL a1 hn ⊢
  go_enter Try.func151, Try.ntmps151
  go_wp2_with (at_builtin; refine wpList_append_sl rfl (.tmp 3) (.tmp 4) rfl elem_str rfl rfl (Own.empty w 9 (Nat.le_refl _)) (SL.out.alloc hB (.cells #[] 9)) (oneCell_strs xs) ?c1 ?c2 ?c3 ?_)
  case c1 => omega
  case c2 => omega
  case c3 => simp
  intro A' c' w' hap
  have HAP := hide hap
  clear hap
  go_wp2
  go_ret
  refine ⟨A', c', ?_, ?_, HAP.out.ext (Ext.alloc w _) (fun p hp => by cases hp; simp)⟩
  · simp
  · exact HAP.out.own

set_option maxRecDepth 100000 in
set_option maxHeartbeats 4000000 in
theorem i.copyItem_to : ToD Try.prog kdItem 118 := by
  rintro w vs d h hwt
  obtain ⟨A, c, A', c', rfl, h1, h2⟩ := kdItem.open_ h
  obtain ⟨k1, k2, _⟩ := kdItem.wt_le hwt
  have LS := hide h1.lenS
  have a1 := h1.1; have a2 := h1.2.1; have a3 := h2.1; have a4 := h2.2.1
  have H1 := hide h1
  have H2 := hide h2
  clear h h1 h2 hwt
  rw [kdItem.val3]
  obtain ⟨n, hn⟩ : ∃ n, Hid (d.1.length = n) := ⟨_, rfl⟩
  obtain ⟨n', hn'⟩ : ∃ n', Hid (d.2.1.length = n') := ⟨_, rfl⟩
  obtain ⟨q, hq⟩ : ∃ q, Hid (d.2.2 = q) := ⟨_, rfl⟩
  rw [hn.out, hn'.out, hq.out]
  rw [hn.out] at k1 a1
  rw [hn'.out] at k2 a3
  obtain ⟨W0, hW0⟩ : ∃ W0, Hid (W0 = (w.alloc (.cells #[.slice A n c, .slice A' n' c', .bool q] 70)).alloc (.cells #[.slice none 0 0, .slice none 0 0, .bool false] 70)) := ⟨_, rfl⟩
  have X : Hid (Ext w W0) := by rw [hW0.out]; exact (Ext.alloc w _).trans (Ext.alloc _ _)
  have B0 : Hid (Blk W0 w.heap.size #[.slice A n c, .slice A' n' c', .bool q] 70) := by rw [hW0.out]; exact (Blk.new rfl _ _).alloc _
  have B1 : Hid (Blk W0 (w.heap.size + 1) #[.slice none 0 0, .slice none 0 0, .bool false] 70) := by rw [hW0.out]; exact Blk.new (by simp) _ _
  have z0 : w.heap.size + 1 < W0.heap.size := B1.out.lt
  have SL : Hid (Sl W0 w.heap.size A n (d.1.map strV)) := by have h8 := (H1.out.ext X.out (Nat.le_refl _)).slS; rwa [hn.out] at h8
  have CI := hide (fun (wq : World) (xq : Ext W0 wq) => i.copyInts_any A' n' c' w.heap.size d.2.1 wq (by have h8 := (H2.out.ext (X.out.trans xq) (Nat.le_refl _)).sl; rwa [hn'.out] at h8) (by have := (X.out.trans xq).size; omega) k2)
  have cB := B0.out.cell
  have cBa := (B0.out.alloc (.cells #[] 9)).cell
  have b1 : (0 + n) * 16 ≤ 140737488355328 := by omega
  have b2 : 0 + n ≤ 4611686018427387904 := by omega
  go_enter Try.func118, Try.ntmps118
  go_wp2
  rw [← hW0.out]
  clear hW0
  go_region_held3 (fun w' => ∀ i, w'.cell? ⟨w.heap.size, i, none⟩ = #[Value.slice A n c, .slice A' n' c', .bool q][i]?)
    (first | exact ((((B0.out.ext Y4.out).far (by simp) _).far (by simp) _).far (by simp) _).cell | exact (B0.out.ext Y4.out).cell | exact (B0.out.ext Y3.out).cell | exact (B0.out.alloc (.cells #[] 9)).cell | exact B0.out.cell)
    (first
    | (go_at_call 158; refine (CI.out w3 Y3.out).mono ?_; rintro e w4 ⟨A2, c2, rfl, o2, x4⟩; have Y4 := hide (Y3.out.trans x4); have O2 := hide o2; have Z4 := hide x4; have c14 := (B1.out.ext Y4.out).cell; have f14 := (B1.out.ext Y4.out).free; clear o2 x4)
    | (refine step_append_sl (by rfl) (.tmp 3) (.tmp 5) (by rfl) elem_str (by rfl) (by rfl) (lo := W0.heap.size) (Own.empty W0 9 (Nat.le_refl _)).drew ((SL.out.alloc (by omega) (.cells #[] 9)).drew) (oneCell_strs _) b1 b2 (by simp) ?_; intro A3 c3 w3 hap; simp only [Nat.zero_add, List.nil_append] at hap; have Y3 : Hid (Ext W0 w3) := hap.ext ((Ext.alloc W0 _).trans (Ext.drew _)) (fun p hp => by cases hp; simp); have O3 := hide hap.own; clear hap))
  all_goals
    go_wp2
    refine bodyPost_ret (v := .agg #[.slice A3 n c3, .slice A2 n' c2, .bool q]) (by simp [results, Try.results118, go_sem, c14]) rfl ?_
    have z3 := Y3.out.size
    have z4 := Z4.out.size
    have l3 : LO kdS 9 w3 A3 c3 d.1 (A3.map (·.block)).toList := Own.loS O3.out LS.out
    have l4 := l3.ext Z4.out
    have l2 : LO kdInt 3 w4 A2 c2 d.2.1 (A2.map (·.block)).toList := O2.out.lo_
    have f3 : ∀ i ∈ (A3.map (·.block)).toList, W0.heap.size ≤ i ∧ i < w3.heap.size := fun i hi => ⟨Own.fpLoS O3.out i hi, l3.lt i hi⟩
    have f2 : ∀ i ∈ (A2.map (·.block)).toList, w3.heap.size ≤ i := OwnI.fpLo O2.out
    have hk : ∀ i, w.heap.size + 1 < i → (((w4.setCell ⟨w.heap.size + 1, 0, none⟩ (.slice A3 n c3)).setCell ⟨w.heap.size + 1, 1, none⟩ (.slice A2 n' c2)).setCell ⟨w.heap.size + 1, 2, none⟩ (.bool q)).heap[i]? = w4.heap[i]? := by
      intro i hi
      rw [Below.heap_setCell _ _ _ _ (by simp; omega), Below.heap_setCell _ _ _ _ (by simp; omega), Below.heap_setCell _ _ _ _ (by simp; omega)]
    have ho := kdItem.mkOwn (d := d) (l4.keep (fun i hi => hk i (by have := f3 i hi; omega))) (l2.keep (fun i hi => hk i (by have := f2 i hi; omega))) (fun i hi hi' => by have := f3 i hi; have := f2 i hi'; omega)
    rw [hn.out, hn'.out, hq.out] at ho
    refine ⟨_, _, rfl, ho, fun i hi => ?_, Below.setCell (Below.setCell (Below.setCell (X.out.trans Y4.out) (by simp) _) (by simp) _) (by simp) _⟩
    rcases List.mem_append.1 hi with h | h
    · have := f3 i h; omega
    · have := f2 i h; omega
end Go.Proofs.Ytmckompikbechaa
