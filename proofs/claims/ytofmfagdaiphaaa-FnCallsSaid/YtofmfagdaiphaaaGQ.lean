/- GQ: OV, OW, OX, OY, OZ in one text. -/
import Derived.Test.YtofmfagdaiphaaaGO
import Derived.Test.YtofmfagdaiphaaaGA
import Derived.Test.YtofmfagdaiphaaaGN
import Derived.Deep.RegionHeld3
/- Marks looked at again: in texts, items, reviews, votes, sheets. -/
namespace Go.Proofs.Ytofmfagdaiphaaa
open Go.RowKit Go.Sort
set_option linter.unusedVariables false

end Go.Proofs.Ytofmfagdaiphaaa

/- Texts and items in new memory. -/
namespace Go.Proofs.Ytofmfagdaiphaaa
open Go.RowKit Go.Sort
set_option linter.unusedVariables false

def strV (x : List UInt8) : Value := .string (bs x)
theorem LR.slS {w : World} {B c : Nat} {A : Option Addr} {xs : List (List UInt8)} (h : LR kdS w B A c xs) : Sl w B A xs.length (xs.map strV) := by
  refine ⟨by simp, fun h0 => ?_⟩
  obtain ⟨b, off, e, hb, _, _⟩ := h.str 0 xs[0] (List.getElem?_eq_getElem h0)
  refine ⟨b, off, e, hb, fun k u hu => ?_⟩
  rw [List.getElem?_map] at hu
  obtain ⟨z, hz, rfl⟩ := Option.map_eq_some_iff.1 hu
  obtain ⟨b', off', e', hb', hc', _⟩ := h.str k z hz
  rw [e] at e'
  simp only [Option.some.injEq, Addr.mk.injEq, and_true] at e'
  obtain ⟨rfl, rfl⟩ := e'
  exact hc'
theorem LR.lenS {w : World} {B c : Nat} {A : Option Addr} {xs : List (List UInt8)} (h : LR kdS w B A c xs) : ∀ x ∈ xs, x.length ≤ 9223372036854775807 := by
  intro x hx
  obtain ⟨k, hk⟩ := List.getElem?_of_mem hx
  obtain ⟨_, _, _, _, _, hl⟩ := h.str k x hk
  exact hl
theorem Own.loS {w : World} {lo n c : Nat} {A : Option Addr} {xs : List (List UInt8)} (h : Own 9 w lo A n c (xs.map strV)) (hx : ∀ x ∈ xs, x.length ≤ 9223372036854775807) : LO kdS 9 w A c xs (A.map (·.block)).toList := by
  have hl : xs.length = n := by have := h.len; simpa using this
  refine ⟨xs.map (fun x => [strV x]), xs.map (fun _ => []), ?_, by simp, by simp, ?_, ?_, ?_⟩
  · have h0 : w.ownsRow 0 9 1 (.slice A n c) n (xs.map strV) := Own.lower h (Nat.zero_le _)
    have e : (xs.map (fun x => [strV x])).flatten = xs.map strV := by
      clear h h0 hx hl
      induction xs with
      | nil => rfl
      | cons x t ih => simp [ih]
    rw [e, hl]
    exact h0
  · intro k cs x f h1 h2 h3
    rw [List.getElem?_map, h2] at h1 h3
    simp at h1 h3
    exact ⟨⟨h1.symm, hx x (List.mem_of_getElem? h2)⟩, h3⟩
  · have : (xs.map (fun _ => ([] : List Nat))).flatten = [] := by
      rw [List.flatten_eq_nil_iff]; simp
    rw [this]; simp
  · cases A <;> simp
theorem elem_str : Elem Try.prog 48 9 16 := Elem.mk Try.underlying48 info_str rfl
theorem oneCell_strs (xs : List (List UInt8)) : ∀ u ∈ xs.map strV, u.oneCell' = true := by
  intro u hu
  obtain ⟨x, _, rfl⟩ := List.mem_map.1 hu
  simp [strV, Value.oneCell']
theorem Own.fpLoS {e : TypeId} {w : World} {lo n c : Nat} {A : Option Addr} {vs : List Value} (h : Own e w lo A n c vs) : ∀ i ∈ (A.map (·.block)).toList, lo ≤ i := by
  intro i hi
  obtain ⟨p, hp, rfl⟩ := mem_of_opt hi
  exact Own.fromLo h p hp

set_option maxHeartbeats 1000000 in
theorem s.l1OwnS_any (A : Option Addr) (c B : Nat) (xs : List (List UInt8)) (w : World) (h : LR kdS w B A c xs) (hB : B ≤ w.heap.size) (hn : xs.length ≤ 1048576) :
    Calls Try.prog 89 #[.slice A xs.length c] w fun e w' => ∃ A' c', e = .returned (.slice A' xs.length c') ∧ Own 9 w' w.heap.size A' xs.length c' (xs.map strV) ∧ Ext w w' := by
  have SL := hide h.slS
  have a1 := h.1; have a2 := h.2.1
  clear h
  obtain ⟨n, hl⟩ : ∃ n, Hid (xs.length = n) := ⟨_, rfl⟩
  rw [hl.out] at SL a1 hn ⊢
  go_enter Try.func89, Try.ntmps89
  go_wp2_with (at_builtin; refine wpList_append_sl rfl (.tmp 3) (.tmp 4) rfl elem_str rfl rfl (Own.empty w 9 (Nat.le_refl _)) (SL.out.alloc hB (.cells #[] 9)) (oneCell_strs xs) ?c1 ?c2 ?c3 ?_)
  case c1 => omega
  case c2 => omega
  case c3 => simp
  intro A' c' w' hap
  have HAP := hide hap
  clear hap
  go_wp2
  go_ret
  refine ⟨A', c', ?_, ?_, HAP.out.ext (Ext.alloc w _) (fun p hp => by cases hp; simp)⟩
  · simp
  · exact HAP.out.own

set_option maxRecDepth 100000 in
set_option maxHeartbeats 4000000 in
theorem i.copyItem_to : ToD Try.prog kdItem 82 := by
  rintro w vs d h hwt
  obtain ⟨A, c, A', c', rfl, h1, h2⟩ := kdItem.open_ h
  obtain ⟨k1, k2, _⟩ := kdItem.wt_le hwt
  have LS := hide h1.lenS
  have a1 := h1.1; have a2 := h1.2.1; have a3 := h2.1; have a4 := h2.2.1
  have H1 := hide h1
  have H2 := hide h2
  clear h h1 h2 hwt
  rw [kdItem.val3]
  obtain ⟨n, hn⟩ : ∃ n, Hid (d.1.length = n) := ⟨_, rfl⟩
  obtain ⟨n', hn'⟩ : ∃ n', Hid (d.2.1.length = n') := ⟨_, rfl⟩
  obtain ⟨q, hq⟩ : ∃ q, Hid (d.2.2 = q) := ⟨_, rfl⟩
  rw [hn.out, hn'.out, hq.out]
  rw [hn.out] at k1 a1
  rw [hn'.out] at k2 a3
  obtain ⟨W0, hW0⟩ : ∃ W0, Hid (W0 = (w.alloc (.cells #[.slice A n c, .slice A' n' c', .bool q] 50)).alloc (.cells #[.slice none 0 0, .slice none 0 0, .bool false] 50)) := ⟨_, rfl⟩
  have X : Hid (Ext w W0) := by rw [hW0.out]; exact (Ext.alloc w _).trans (Ext.alloc _ _)
  have B0 : Hid (Blk W0 w.heap.size #[.slice A n c, .slice A' n' c', .bool q] 50) := by rw [hW0.out]; exact (Blk.new rfl _ _).alloc _
  have B1 : Hid (Blk W0 (w.heap.size + 1) #[.slice none 0 0, .slice none 0 0, .bool false] 50) := by rw [hW0.out]; exact Blk.new (by simp) _ _
  have z0 : w.heap.size + 1 < W0.heap.size := B1.out.lt
  have SL : Hid (Sl W0 w.heap.size A n (d.1.map strV)) := by have h8 := (H1.out.ext X.out (Nat.le_refl _)).slS; rwa [hn.out] at h8
  have CI := hide (fun (wq : World) (xq : Ext W0 wq) => i.copyInts_any A' n' c' w.heap.size d.2.1 wq (by have h8 := (H2.out.ext (X.out.trans xq) (Nat.le_refl _)).sl; rwa [hn'.out] at h8) (by have := (X.out.trans xq).size; omega) k2)
  have cB := B0.out.cell
  have cBa := (B0.out.alloc (.cells #[] 9)).cell
  have b1 : (0 + n) * 16 ≤ 140737488355328 := by omega
  have b2 : 0 + n ≤ 4611686018427387904 := by omega
  go_enter Try.func82, Try.ntmps82
  go_wp2
  rw [← hW0.out]
  clear hW0
  go_region_held3 (fun w' => ∀ i, w'.cell? ⟨w.heap.size, i, none⟩ = #[Value.slice A n c, .slice A' n' c', .bool q][i]?)
    (first | exact ((((B0.out.ext Y4.out).far (by simp) _).far (by simp) _).far (by simp) _).cell | exact (B0.out.ext Y4.out).cell | exact (B0.out.ext Y3.out).cell | exact (B0.out.alloc (.cells #[] 9)).cell | exact B0.out.cell)
    (first
    | (go_at_call 91; refine (CI.out w3 Y3.out).mono ?_; rintro e w4 ⟨A2, c2, rfl, o2, x4⟩; have Y4 := hide (Y3.out.trans x4); have O2 := hide o2; have Z4 := hide x4; have c14 := (B1.out.ext Y4.out).cell; have f14 := (B1.out.ext Y4.out).free; clear o2 x4)
    | (refine step_append_sl (by rfl) (.tmp 3) (.tmp 5) (by rfl) elem_str (by rfl) (by rfl) (lo := W0.heap.size) (Own.empty W0 9 (Nat.le_refl _)).drew ((SL.out.alloc (by omega) (.cells #[] 9)).drew) (oneCell_strs _) b1 b2 (by simp) ?_; intro A3 c3 w3 hap; simp only [Nat.zero_add, List.nil_append] at hap; have Y3 : Hid (Ext W0 w3) := hap.ext ((Ext.alloc W0 _).trans (Ext.drew _)) (fun p hp => by cases hp; simp); have O3 := hide hap.own; clear hap))
  all_goals
    go_wp2
    refine bodyPost_ret (v := .agg #[.slice A3 n c3, .slice A2 n' c2, .bool q]) (by simp [results, Try.results82, go_sem, c14]) rfl ?_
    have z3 := Y3.out.size
    have z4 := Z4.out.size
    have l3 : LO kdS 9 w3 A3 c3 d.1 (A3.map (·.block)).toList := Own.loS O3.out LS.out
    have l4 := l3.ext Z4.out
    have l2 : LO kdInt 3 w4 A2 c2 d.2.1 (A2.map (·.block)).toList := O2.out.lo_
    have f3 : ∀ i ∈ (A3.map (·.block)).toList, W0.heap.size ≤ i ∧ i < w3.heap.size := fun i hi => ⟨Own.fpLoS O3.out i hi, l3.lt i hi⟩
    have f2 : ∀ i ∈ (A2.map (·.block)).toList, w3.heap.size ≤ i := OwnI.fpLo O2.out
    have hk : ∀ i, w.heap.size + 1 < i → (((w4.setCell ⟨w.heap.size + 1, 0, none⟩ (.slice A3 n c3)).setCell ⟨w.heap.size + 1, 1, none⟩ (.slice A2 n' c2)).setCell ⟨w.heap.size + 1, 2, none⟩ (.bool q)).heap[i]? = w4.heap[i]? := by
      intro i hi
      rw [Below.heap_setCell _ _ _ _ (by simp; omega), Below.heap_setCell _ _ _ _ (by simp; omega), Below.heap_setCell _ _ _ _ (by simp; omega)]
    have ho := kdItem.mkOwn (d := d) (l4.keep (fun i hi => hk i (by have := f3 i hi; omega))) (l2.keep (fun i hi => hk i (by have := f2 i hi; omega))) (fun i hi hi' => by have := f3 i hi; have := f2 i hi'; omega)
    rw [hn.out, hn'.out, hq.out] at ho
    refine ⟨_, _, rfl, ho, fun i hi => ?_, Below.setCell (Below.setCell (Below.setCell (X.out.trans Y4.out) (by simp) _) (by simp) _) (by simp) _⟩
    rcases List.mem_append.1 hi with h | h
    · have := f3 i h; omega
    · have := f2 i h; omega
end Go.Proofs.Ytofmfagdaiphaaa

/- Lists of items in new memory. -/
namespace Go.Proofs.Ytofmfagdaiphaaa
open Go.RowKit Go.Sort
set_option linter.unusedVariables false

theorem elemN_item : ElemN Try.prog 24 50 3 56 (.agg #[.slice none 0 0, .slice none 0 0, .bool false]) := ElemN.mk Try.underlying24 info_item rfl
theorem LO.emptyI (w : World) : LO kdItem 50 (w.alloc (.cells #[] 50)) (some ⟨w.heap.size, 0, none⟩) 0 [] [w.heap.size] :=
  ⟨[], [], World.ownsRow_lit w #[] 0 (Nat.zero_le _) (by unfold maxLen; omega) rfl, rfl, rfl, by simp, rfl, by simp⟩
theorem item_src (w : World) (a b c : Value) (t : TypeId) : ∀ j v, [a, b, c][j]? = some v → (w.alloc (.cells #[a, b, c] t)).cell? ⟨w.heap.size, 0 + j, none⟩ = some v := by
  intro j v h
  match j, h with
  | 0, h => simp at h; subst h; simp [World.cell?_alloc_at]
  | 1, h => simp at h; subst h; simp [World.cell?_alloc_at]
  | 2, h => simp at h; subst h; simp [World.cell?_alloc_at]
  | j + 3, h => simp at h

set_option maxRecDepth 100000 in
set_option maxHeartbeats 4000000 in
theorem i.copyItems_any (w : World) (A : Option Addr) (c B : Nat) (xs : List ItD) (h : LR kdItem w B A c xs) (hB : B ≤ w.heap.size) (hwt : wtL kdItem xs ≤ 1048576) :
    Calls Try.prog 54 #[.slice A xs.length c] w fun e w' => ∃ A' c' fp, e = .returned (.slice A' xs.length c') ∧ LO kdItem 50 w' A' c' xs fp ∧ (∀ i ∈ fp, w.heap.size ≤ i) ∧ Ext w w' := by
  have H := hide h
  have HW := hide hwt
  have a1 := h.1; have a2 := h.2.1
  have hlen := wtL_len kdItem xs
  have hn0 : xs.length ≤ 1048576 := by omega
  clear h hwt hlen
  obtain ⟨n, hn⟩ : ∃ n, Hid (xs.length = n) := ⟨_, rfl⟩
  rw [hn.out] at hn0 a1 ⊢
  go_enter Try.func54, Try.ntmps54
  go_wp2
  go_loopw [3, 9] (fun o i0 wr => ∃ (k : Nat) (A' : Option Addr) (c' : Nat) (fp : List Nat), k ≤ n ∧ i0 = .int .i64 k ∧ o = .slice A' k c' ∧ LO kdItem 50 wr A' c' (xs.take k) fp ∧ (∀ i ∈ fp, w.heap.size ≤ i) ∧ Ext w wr) (fun _ i0 _ => n - (intOf i0).toNat)
  case atStart => exact ⟨0, _, _, _, Nat.zero_le _, rfl, rfl, LO.emptyI w, fun i hi => by simp at hi; omega, Ext.alloc w _⟩
  case round =>
    obtain ⟨k, A', c', fp, hk, rfl, rfl, hown, hfp, hx⟩ := hrel
    have HO := hide hown
    have HF := hide hfp
    have HX := hide hx
    clear hown hx hfp
    by_cases hlt : k < n
    · obtain ⟨x, hxk⟩ : ∃ x, Hid (xs[k]? = some x) := ⟨_, List.getElem?_eq_getElem (by rw [hn.out]; exact hlt)⟩
      obtain ⟨b, off, A1, c1, A2, c2, rfl, hb, q0, q1, q2, r1, r2⟩ := (H.out.ext HX.out hB).item k x hxk.out
      have sz := HX.out.size
      have hcap := HO.out.cap
      obtain ⟨W1, hW1⟩ : ∃ W1, Hid (W1 = wr.alloc (.cells #[.slice A1 x.1.length c1, .slice A2 x.2.1.length c2, .bool x.2.2] 50)) := ⟨_, rfl⟩
      have x1 : Ext wr W1 := by rw [hW1.out]; exact Ext.alloc _ _
      have TO := hide (i.copyItem_to W1 _ x (kdItem.rd_more (B' := W1.heap.size) (kdItem.mk_ (r1.ext x1 (by omega)) (r2.ext x1 (by omega))) (by have := x1.size; omega)) (Nat.le_trans (wtL_at kdItem xs k x hxk.out) HW.out))
      have HK : Hid (xs.take (k + 1) = xs.take k ++ [x]) := by
        obtain ⟨hk', e⟩ := List.getElem?_eq_some_iff.1 hxk.out
        show _ = _
        rw [List.take_succ_eq_append_getElem hk', e]
      have HL : Hid ((xs.take k).length = k) := by show _ = _; rw [List.length_take, hn.out]; omega
      have LT := hide HO.out.lt
      replace HO := hide (HO.out.ext x1)
      replace HX := hide (HX.out.trans x1)
      have sz1 := x1.size
      clear x1 r1 r2
      go_wp2_with fail
      rw [← hW1.out]
      clear hW1 q0 q1 q2
      refine TO.out.mono ?_
      rintro e w4 ⟨vs', f', rfl, ho', hf', x4⟩
      obtain ⟨A3, c3, A4, c4, rfl, _, _⟩ := kdItem.open_ (kdItem.own_rd ho')
      rw [kdItem.val3]
      have LO1 := hide ((HO.out.ext x4).ext (Ext.alloc w4 (.cells #[.slice A3 x.1.length c3, .slice A4 x.2.1.length c4, .bool x.2.2] 50)))
      have KO1 := hide (kdItem.own_ext ho' (Ext.alloc w4 (.cells #[.slice A3 x.1.length c3, .slice A4 x.2.1.length c4, .bool x.2.2] 50)))
      have D2 := hide (item_src w4 (.slice A3 x.1.length c3) (.slice A4 x.2.1.length c4) (.bool x.2.2) 50)
      have X4 := hide ((HX.out.trans x4).trans (Ext.alloc w4 (.cells #[.slice A3 x.1.length c3, .slice A4 x.2.1.length c4, .bool x.2.2] 50)))
      have FL := hide hf'
      have sz4 := x4.size
      have b1 : (k + 1) * 56 ≤ 140737488355328 := by omega
      have b2 : k + 1 ≤ 4611686018427387904 := by omega
      clear ho' hf' x4 HO TO
      generalize x.1.length = m1 at *
      generalize x.2.1.length = m2 at *
      generalize x.2.2 = m3 at *
      go_wp2_with (at_builtin; refine wpList_append_LO (K := kdItem) rfl (.tmp 13) (.tmp 16) rfl elemN_item (by decide) HL.out.symm rfl rfl LO1.out KO1.out ?d1 D2.out b1 b2 ?_)
      case d1 => intro i hi hm; have := FL.out i hi; have := LT.out i hm; omega
      intro A9 c9 w9 fp9 hap
      have HA := hide hap
      clear hap
      go_wp2
      go_roundw
      case rel =>
        refine ⟨k + 1, A9, c9, fp9, by omega, by go_num, rfl, by rw [HK.out]; exact HA.out.own, fun i hi => ?_, X4.out.tchF HA.out.tch HF.out⟩
        have h5 := X4.out.size
        rcases HA.out.sub i hi with h | h | h
        · exact HF.out i h
        · have := FL.out i h; omega
        · rw [h]; exact h5
      case measure => simp [intOf]; omega
    · have ek : n = k := by omega
      subst ek
      go_wp2
      go_ret
      exact ⟨A', c', fp, rfl, by have h8 := HO.out; rwa [List.take_of_length_le (by rw [hn.out]; exact Nat.le_refl _)] at h8, HF.out, HX.out⟩
end Go.Proofs.Ytofmfagdaiphaaa

/- The reference's lists of items in new memory. -/
namespace Go.Proofs.Ytofmfagdaiphaaa
open Go.RowKit Go.Sort
set_option linter.unusedVariables false

theorem step_append_LOI {P : Program} {t e : TypeId} {bytes : Nat} {z : Value} {α : Type} {K : Kd α} {w : World} {A : Option Addr} {c : Nat} {xs : List α} {fp : List Nat} {ops : Array Oper} {o : Oper} {a : Act} {Q : Exit → Act → World → Prop} {KK : Act → World → Prop} {G : Prop} (hgd : o.guard = none) (s y : Operand)
    (hop : o.op = .call { callee := .builtin .append, args := #[s, y], argTypes := #[t, t] }) (E : ElemN P t e K.size bytes z) (hs0 : 0 < K.size)
    {gl d n : Nat} (hn : n = xs.length) (hs' : a.eval s = .slice A n c) (hx' : a.eval y = .slice (some ⟨gl, 0, none⟩) 1 d) (h : LO K e w A c xs fp) {cs : List Value} {x : α} {f : List Nat} (ho : K.own w cs x f) (hd : ∀ i ∈ f, i ∉ fp)
    (hsrc : ∀ j u, cs[j]? = some u → w.cell? ⟨gl, 0 + j, none⟩ = some u) (hb : (n + 1) * bytes ≤ 140737488355328) (hm : n + 1 ≤ 4611686018427387904)
    (hK : ∀ A' c' w' fp', ApL K e w fp f w' A' c' (xs ++ [x]) fp' → KK (a.put o.dst (.slice A' (n + 1) c')) w') :
    if Region.wanted o (yielded ops a.tmps) = true then Oper.wp P o a w KK Q else G := by
  have hw : Region.wanted o (yielded ops a.tmps) = true := by simp [Region.wanted, hgd]
  rw [if_pos hw]
  exact wp_append_LO s y hop E hs0 hn hs' hx' h ho hd hsrc hb hm hK

set_option maxRecDepth 100000 in
set_option maxHeartbeats 4000000 in
theorem s.itOwn_any (w : World) (A : Option Addr) (c B : Nat) (xs : List ItD) (h : LR kdItem w B A c xs) (hB : B ≤ w.heap.size) (hwt : wtL kdItem xs ≤ 1048576) :
    Calls Try.prog 78 #[.slice A xs.length c] w fun e w' => ∃ A' c' fp, e = .returned (.slice A' xs.length c') ∧ LO kdItem 50 w' A' c' xs fp ∧ (∀ i ∈ fp, w.heap.size ≤ i) ∧ Ext w w' := by
  have H := hide h
  have HW := hide hwt
  have a1 := h.1; have a2 := h.2.1
  have hlen := wtL_len kdItem xs
  have hn0 : xs.length ≤ 1048576 := by omega
  clear h hwt hlen
  obtain ⟨n, hn⟩ : ∃ n, Hid (xs.length = n) := ⟨_, rfl⟩
  rw [hn.out] at hn0 a1 ⊢
  go_enter Try.func78, Try.ntmps78
  go_wp2
  go_loopw [3, 8] (fun o i0 wr => ∃ (k : Nat) (A' : Option Addr) (c' : Nat) (fp : List Nat), k ≤ n ∧ i0 = .int .i64 k ∧ o = .slice A' k c' ∧ LO kdItem 50 wr A' c' (xs.take k) fp ∧ (∀ i ∈ fp, w.heap.size ≤ i) ∧ Ext w wr) (fun _ i0 _ => n - (intOf i0).toNat)
  case atStart => exact ⟨0, none, 0, [], Nat.zero_le _, rfl, rfl, LO.none_, by simp, Ext.refl w⟩
  case round =>
    obtain ⟨k, A', c', fp, hk, rfl, rfl, hown, hfp, hx⟩ := hrel
    have HO := hide hown
    have HF := hide hfp
    have HX := hide hx
    clear hown hx hfp
    by_cases hlt : k < n
    · obtain ⟨x, hxk⟩ : ∃ x, Hid (xs[k]? = some x) := ⟨_, List.getElem?_eq_getElem (by rw [hn.out]; exact hlt)⟩
      obtain ⟨b, off, A1, c1, A2, c2, rfl, hb, q0, q1, q2, r1, r2⟩ := (H.out.ext HX.out hB).item k x hxk.out
      have sz := HX.out.size
      have hcap := HO.out.cap
      obtain ⟨k1, k2, _⟩ := kdItem.wt_le (Nat.le_trans (wtL_at kdItem xs k x hxk.out) HW.out)
      have LS := hide r1.lenS
      obtain ⟨W1, hW1⟩ : ∃ W1, Hid (W1 = wr.alloc (.cells #[.slice A1 x.1.length c1, .slice A2 x.2.1.length c2, .bool x.2.2] 50)) := ⟨_, rfl⟩
      have x1 : Ext wr W1 := by rw [hW1.out]; exact Ext.alloc _ _
      have BV : Hid (Blk W1 wr.heap.size #[.slice A1 x.1.length c1, .slice A2 x.2.1.length c2, .bool x.2.2] 50) := by rw [hW1.out]; exact Blk.new rfl _ _
      have CS := hide (fun (wq : World) (xq : Ext wr wq) => s.l1OwnS_any A1 c1 B x.1 wq (r1.ext xq (by omega)) (by have := xq.size; omega) k1)
      have CI := hide (fun (wq : World) (xq : Ext wr wq) => s.l1Own_any A2 x.2.1.length c2 B x.2.1 wq (r2.sl.ext xq (by omega)) (by have := xq.size; omega) k2)
      have HK : Hid (xs.take (k + 1) = xs.take k ++ [x]) := by
        obtain ⟨hk', e⟩ := List.getElem?_eq_some_iff.1 hxk.out
        show _ = _
        rw [List.take_succ_eq_append_getElem hk', e]
      have HL : Hid ((xs.take k).length = k) := by show _ = _; rw [List.length_take, hn.out]; omega
      have LT := hide HO.out.lt
      have X1 := hide x1
      have sz1 := x1.size
      have b1 : (k + 1) * 56 ≤ 140737488355328 := by omega
      have b2 : k + 1 ≤ 4611686018427387904 := by omega
      have MKO : Hid (∀ (w3 w4 : World) (A3 A4 : Option Addr) (c3 c4 : Nat), Ext wr w3 → Own 9 w3 wr.heap.size A3 x.1.length c3 (x.1.map strV) → OwnI 3 w4 w3.heap.size A4 x.2.1.length c4 x.2.1 → Ext w3 w4 → kdItem.own w4 [.slice A3 x.1.length c3, .slice A4 x.2.1.length c4, .bool x.2.2] x ((A3.map (·.block)).toList ++ (A4.map (·.block)).toList) ∧ ∀ i ∈ (A3.map (·.block)).toList ++ (A4.map (·.block)).toList, wr.heap.size ≤ i) := fun w3 w4 A3 A4 c3 c4 xr o3 o4 x34 => by
        have l3 : LO kdS 9 w3 A3 c3 x.1 (A3.map (·.block)).toList := Own.loS o3 LS.out
        have f3 : ∀ i ∈ (A3.map (·.block)).toList, wr.heap.size ≤ i ∧ i < w3.heap.size := fun i hi => ⟨Own.fpLoS o3 i hi, l3.lt i hi⟩
        have f4 : ∀ i ∈ (A4.map (·.block)).toList, w3.heap.size ≤ i := OwnI.fpLo o4
        refine ⟨kdItem.mkOwn (d := x) (l3.ext x34) o4.lo_ (fun i hi hi' => by have := f3 i hi; have := f4 i hi'; omega), fun i hi => ?_⟩
        have h5 := xr.size
        rcases List.mem_append.1 hi with h | h
        · exact (f3 i h).1
        · have h4 := f4 i h
          omega
      clear r1 r2 x1
      have cBn := BV.out.cell
      rw [hW1.out] at cBn
      generalize x.1.length = m1 at *
      generalize x.2.1.length = m2 at *
      generalize x.2.2 = m3 at *
      go_wp2
      rw [← hW1.out]
      clear hW1 cBn q0 q1 q2
      go_region_held3 (fun w' => ∀ i, w'.cell? ⟨wr.heap.size, i, none⟩ = #[Value.slice A1 m1 c1, .slice A2 m2 c2, .bool m3][i]?)
        (first | exact BV9.out.cell | exact ((BV.out.ext Y4.out).ext (Ext.alloc w4 (.cells #[.slice A3 m1 c3, .slice A4 m2 c4, .bool m3] 50))).cell | exact (BV.out.ext Y4.out).cell | exact (BV.out.ext Y3.out).cell | exact BV.out.cell)
        (first
        | (refine step_append_LOI (K := kdItem) (by rfl) (.tmp 12) (.tmp 22) (by rfl) elemN_item (by decide) HL.out.symm (by rfl) (by rfl) LO1.out KO1.out D1.out D2.out b1 b2 ?_; intro A9 c9 w9 fp9 hap; have HA := hide hap; have BV9 := hide (((BV.out.ext Y4.out).ext (Ext.alloc w4 (.cells #[.slice A3 m1 c3, .slice A4 m2 c4, .bool m3] 50))).tchF HA.out.tch (fun h => by have := LT.out _ h; omega)); clear hap)
        | (go_at_call 79; refine (CI.out w3 (X1.out.trans Y3.out)).mono ?_; rintro e w4 ⟨A4, c4, rfl, o4, x4⟩; have Y4 := hide (Y3.out.trans x4); have mko := MKO.out w3 w4 A3 A4 c3 c4 (X1.out.trans Y3.out) O3.out o4 x4; have LO1 := hide ((HO.out.ext (X1.out.trans Y4.out)).ext (Ext.alloc w4 (.cells #[.slice A3 m1 c3, .slice A4 m2 c4, .bool m3] 50))); have KO1 := hide (kdItem.own_ext mko.1 (Ext.alloc w4 (.cells #[.slice A3 m1 c3, .slice A4 m2 c4, .bool m3] 50))); have FL := hide mko.2; have D1 : Hid (∀ i ∈ (A3.map (·.block)).toList ++ (A4.map (·.block)).toList, i ∉ fp) := (fun i hi hm => by have h8 := FL.out i hi; have h9 := LT.out i hm; omega); have D2 := hide (item_src w4 (.slice A3 m1 c3) (.slice A4 m2 c4) (.bool m3) 50); clear o4 x4 mko)
        | (go_at_call 89; refine (CS.out W1.drew (X1.out.trans (Ext.drew W1))).mono ?_; rintro e w3 ⟨A3, c3, rfl, o3, x3⟩; have Y3 := hide ((Ext.drew W1).trans x3); have O3 : Hid (Own 9 w3 wr.heap.size A3 m1 c3 (x.1.map strV)) := o3.lower sz1; clear o3 x3))
      all_goals
        go_wp2
        go_roundw
        case rel =>
          have X4 := (HX.out.trans (X1.out.trans Y4.out)).trans (Ext.alloc w4 (.cells #[.slice A3 m1 c3, .slice A4 m2 c4, .bool m3] 50))
          refine ⟨k + 1, A9, c9, fp9, by omega, by go_num, rfl, by rw [HK.out]; exact HA.out.own, fun i hi => ?_, X4.tchF HA.out.tch HF.out⟩
          have h5 := X4.size
          rcases HA.out.sub i hi with h | h | h
          · exact HF.out i h
          · have := FL.out i h; omega
          · rw [h]; exact h5
        case measure => simp [intOf]; omega
    · have ek : n = k := by omega
      subst ek
      go_wp2
      go_ret
      exact ⟨A', c', fp, rfl, by have h8 := HO.out; rwa [List.take_of_length_le (by rw [hn.out]; exact Nat.le_refl _)] at h8, HF.out, HX.out⟩
end Go.Proofs.Ytofmfagdaiphaaa

/- Lists of items as the laws hand them about; one mark of an item in memory of the call's own. -/
namespace Go.Proofs.Ytofmfagdaiphaaa
open Go.RowKit Go.Sort
set_option linter.unusedVariables false

theorem cntIt_wt (xs : List ItD) : kdItS.cnt xs ≤ kdItS.wt xs := by
  have h : kdItS.cnt xs ≤ 1 * kdItS.wt xs := cntL_le kdItem 1 (fun x => by
    have e1 : kdItem.cnt x = kdSS.cnt x.1 + (kdL.cnt x.2.1 + 1) := rfl
    have e2 : kdSS.cnt x.1 ≤ 1 * kdSS.wt x.1 := cntL_le kdS 1 (fun y => by have : kdS.cnt y = 1 := rfl; omega) x.1
    have e3 : kdL.cnt x.2.1 = x.2.1.length := cntL_int _
    have e4 : kdL.wt x.2.1 = x.2.1.length := wtL_int _
    rw [kdItem.wt_eq]
    omega) xs
  omega
def kIt : Kind (List ItD) where
  rd w v d := ∃ vs, v = kdItS.val vs ∧ kdItS.rd w w.heap.size vs d
  fr w lo hi v d := ∃ vs fp, v = kdItS.val vs ∧ kdItS.own w vs d fp ∧ (∀ i ∈ fp, lo ≤ i ∧ i < hi)
  ok d := kdItS.wt d ≤ 1048576
  mrk := kdItS.mrk
  cnt := kdItS.cnt
  rd_ext := by
    rintro w w' v d ⟨vs, rfl, h⟩ hx
    exact ⟨vs, rfl, kdItS.rd_more (kdItS.rd_ext h hx (Nat.le_refl _)) hx.size⟩
  fr_rd := by
    rintro w lo hi v d ⟨vs, fp, rfl, h, _⟩
    exact ⟨vs, rfl, kdItS.own_rd h⟩
  fr_tch := by
    rintro w w' lo hi lo' hi' v d ⟨vs, fp, rfl, h, hf⟩ k hd
    refine ⟨vs, fp, rfl, kdItS.own_keep h (fun i hi' => k.block i (kdItS.own_lt h i hi') ?_), hf⟩
    have := hf i hi'
    omega
  ok_cnt := fun {d} h => Nat.le_trans (Nat.le_trans (cntIt_wt d) h) (by decide)
theorem kIt.fr_nil (w : World) (lo hi : Nat) : kIt.fr w lo hi (.slice none 0 0) [] := ⟨[.slice none 0 0], [], rfl, ⟨none, 0, rfl, LO.none_⟩, by simp⟩
/-- One mark of an item in a list of the call's own: where it lies, and what a store there leaves. -/
theorem LO.spotI {e : TypeId} {w : World} {A : Option Addr} {c : Nat} {xs : List ItD} {fp : List Nat} (h : LO kdItem e w A c xs fp) (k : Nat) (x : ItD) (hx : xs[k]? = some x) (j : Nat) (hj : j < x.2.1.length) :
    ∃ g A1 c1 gx c2, A = some ⟨g, 0, none⟩ ∧ g ∈ fp ∧ gx ∈ fp ∧ gx ≠ g ∧ w.cell? ⟨g, k * 3, none⟩ = some (.slice A1 x.1.length c1) ∧ w.cell? ⟨g, k * 3 + 1, none⟩ = some (.slice (some ⟨gx, 0, none⟩) x.2.1.length c2) ∧ w.cell? ⟨g, k * 3 + 2, none⟩ = some (.bool x.2.2) ∧ x.2.1.length ≤ c2 ∧ c2 ≤ 9223372036854775807 ∧
      w.cell? ⟨gx, j, none⟩ = some (.int .i64 (x.2.1.getD j 0)) ∧ w.frozen? ⟨gx, j, none⟩ = false ∧ ∀ z, LO kdItem e (w.setCell ⟨gx, j, none⟩ (.int .i64 z)) A c (xs.set k (x.1, x.2.1.set j z, x.2.2)) fp := by
  obtain ⟨g, cs, f, hat⟩ := h.at_ k x hx
  obtain ⟨v1, v2, f1, f2, hcs0, ⟨A1, c1, rfl, l1⟩, ⟨v3, v4, f3, f4, rfl, ⟨A2, c2, rfl, l2⟩, ⟨h4, rfl⟩, hf2, _⟩, hf, hnd⟩ := hat.own
  have h4 : v4 = [.bool x.2.2] := h4
  subst h4
  simp only [List.append_nil] at hf2
  subst hf2
  have hcs0 : cs = [.slice A1 x.1.length c1, .slice A2 x.2.1.length c2, .bool x.2.2] := hcs0
  subst hcs0
  subst hf
  obtain ⟨o2, hf2⟩ := l2.own
  obtain ⟨gx, rfl, _, _, hc⟩ := o2.pos (by omega)
  have hm : gx ∈ f2 := by rw [hf2]; simp
  have hdj : ∀ i ∈ f1, i ∉ f2 := by rw [List.nodup_append] at hnd; exact fun i hi hi' => hnd.2.2 i hi i hi' rfl
  refine ⟨g, A1, c1, gx, c2, hat.addr, hat.mem, (hat.sub gx (List.mem_append_right _ hm)).1, (hat.sub gx (List.mem_append_right _ hm)).2, hat.cell 0 _ rfl, hat.cell 1 _ rfl, hat.cell 2 _ rfl, hc, o2.capm, o2.cell j hj, o2.free j, fun z => ?_⟩
  refine hat.inplace _ _ ?_ ((TchF.set1 w _ _ hm).more (fun i hi => List.mem_append_right _ hi))
  have o3 := (o2.set j z).lo_
  have l1' : LO kdS 9 (w.setCell ⟨gx, j, none⟩ (.int .i64 z)) A1 c1 x.1 f1 := l1.keep (fun i hi => Below.heap_setCell _ _ _ _ (fun (e : i = gx) => hdj i hi (e ▸ hm)))
  have ho := kdItem.mkOwn (d := (x.1, x.2.1.set j z, x.2.2)) l1' (by rw [hf2]; exact o3) hdj
  simpa using ho
end Go.Proofs.Ytofmfagdaiphaaa
