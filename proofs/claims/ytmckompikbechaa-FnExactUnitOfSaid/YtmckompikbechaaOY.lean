/- The reference's lists of items in new memory. -/
import Derived.Test.YtmckompikbechaaOX
namespace Go.Proofs.Ytmckompikbechaa
open Go.RowKit Go.Sort
set_option linter.unusedVariables false

theorem step_append_LOI {P : Program} {t e : TypeId} {bytes : Nat} {z : Value} {α : Type} {K : Kd α} {w : World} {A : Option Addr} {c : Nat} {xs : List α} {fp : List Nat} {ops : Array Oper} {o : Oper} {a : Act} {Q : Exit → Act → World → Prop} {KK : Act → World → Prop} {G : Prop} (hgd : o.guard = none) (s y : Operand)
    (hop : o.op = .call { callee := .builtin .append, args := #[s, y], argTypes := #[t, t] }) (E : ElemN P t e K.size bytes z) (hs0 : 0 < K.size)
    {gl d n : Nat} (hn : n = xs.length) (hs' : a.eval s = .slice A n c) (hx' : a.eval y = .slice (some ⟨gl, 0, none⟩) 1 d) (h : LO K e w A c xs fp) {cs : List Value} {x : α} {f : List Nat} (ho : K.own w cs x f) (hd : ∀ i ∈ f, i ∉ fp)
    (hsrc : ∀ j u, cs[j]? = some u → w.cell? ⟨gl, 0 + j, none⟩ = some u) (hb : (n + 1) * bytes ≤ 140737488355328) (hm : n + 1 ≤ 4611686018427387904)
    (hK : ∀ A' c' w' fp', ApL K e w fp f w' A' c' (xs ++ [x]) fp' → KK (a.put o.dst (.slice A' (n + 1) c')) w') :
    if Region.wanted o (yielded ops a.tmps) = true then Oper.wp P o a w KK Q else G := by
  have hw : Region.wanted o (yielded ops a.tmps) = true := by simp [Region.wanted, hgd]
  rw [if_pos hw]
  exact wp_append_LO s y hop E hs0 hn hs' hx' h ho hd hsrc hb hm hK

set_option maxRecDepth 100000 in
set_option maxHeartbeats 4000000 in
theorem s.itOwn_any (w : World) (A : Option Addr) (c B : Nat) (xs : List ItD) (h : LR kdItem w B A c xs) (hB : B ≤ w.heap.size) (hwt : wtL kdItem xs ≤ 1048576) :
    Calls Try.prog 115 #[.slice A xs.length c] w fun e w' => ∃ A' c' fp, e = .returned (.slice A' xs.length c') ∧ LO kdItem 70 w' A' c' xs fp ∧ (∀ i ∈ fp, w.heap.size ≤ i) ∧ Ext w w' := by
  have H := hide h
  have HW := hide hwt
  have a1 := h.1; have a2 := h.2.1
  have hlen := wtL_len kdItem xs
  have hn0 : xs.length ≤ 1048576 := by omega
  clear h hwt hlen
  obtain ⟨n, hn⟩ : ∃ n, Hid (xs.length = n) := ⟨_, rfl⟩
  rw [hn.out] at hn0 a1 ⊢
  go_enter Try.func115, Try.ntmps115
  go_wp2
  go_loopw [3, 8] (fun o i0 wr => ∃ (k : Nat) (A' : Option Addr) (c' : Nat) (fp : List Nat), k ≤ n ∧ i0 = .int .i64 k ∧ o = .slice A' k c' ∧ LO kdItem 70 wr A' c' (xs.take k) fp ∧ (∀ i ∈ fp, w.heap.size ≤ i) ∧ Ext w wr) (fun _ i0 _ => n - (intOf i0).toNat)
  case atStart => exact ⟨0, none, 0, [], Nat.zero_le _, rfl, rfl, LO.none_, by simp, Ext.refl w⟩
  case round =>
    obtain ⟨k, A', c', fp, hk, rfl, rfl, hown, hfp, hx⟩ := hrel
    have HO := hide hown
    have HF := hide hfp
    have HX := hide hx
    clear hown hx hfp
    by_cases hlt : k < n
    · obtain ⟨x, hxk⟩ : ∃ x, Hid (xs[k]? = some x) := ⟨_, List.getElem?_eq_getElem (by rw [hn.out]; exact hlt)⟩
      obtain ⟨b, off, A1, c1, A2, c2, rfl, hb, q0, q1, q2, r1, r2⟩ := (H.out.ext HX.out hB).item k x hxk.out
      have sz := HX.out.size
      have hcap := HO.out.cap
      obtain ⟨k1, k2, _⟩ := kdItem.wt_le (Nat.le_trans (wtL_at kdItem xs k x hxk.out) HW.out)
      have LS := hide r1.lenS
      obtain ⟨W1, hW1⟩ : ∃ W1, Hid (W1 = wr.alloc (.cells #[.slice A1 x.1.length c1, .slice A2 x.2.1.length c2, .bool x.2.2] 70)) := ⟨_, rfl⟩
      have x1 : Ext wr W1 := by rw [hW1.out]; exact Ext.alloc _ _
      have BV : Hid (Blk W1 wr.heap.size #[.slice A1 x.1.length c1, .slice A2 x.2.1.length c2, .bool x.2.2] 70) := by rw [hW1.out]; exact Blk.new rfl _ _
      have CS := hide (fun (wq : World) (xq : Ext wr wq) => s.l1OwnS_any A1 c1 B x.1 wq (r1.ext xq (by omega)) (by have := xq.size; omega) k1)
      have CI := hide (fun (wq : World) (xq : Ext wr wq) => s.l1Own_any A2 x.2.1.length c2 B x.2.1 wq (r2.sl.ext xq (by omega)) (by have := xq.size; omega) k2)
      have HK : Hid (xs.take (k + 1) = xs.take k ++ [x]) := by
        obtain ⟨hk', e⟩ := List.getElem?_eq_some_iff.1 hxk.out
        show _ = _
        rw [List.take_succ_eq_append_getElem hk', e]
      have HL : Hid ((xs.take k).length = k) := by show _ = _; rw [List.length_take, hn.out]; omega
      have LT := hide HO.out.lt
      have X1 := hide x1
      have sz1 := x1.size
      have b1 : (k + 1) * 56 ≤ 140737488355328 := by omega
      have b2 : k + 1 ≤ 4611686018427387904 := by omega
      have MKO : Hid (∀ (w3 w4 : World) (A3 A4 : Option Addr) (c3 c4 : Nat), Ext wr w3 → Own 9 w3 wr.heap.size A3 x.1.length c3 (x.1.map strV) → OwnI 3 w4 w3.heap.size A4 x.2.1.length c4 x.2.1 → Ext w3 w4 → kdItem.own w4 [.slice A3 x.1.length c3, .slice A4 x.2.1.length c4, .bool x.2.2] x ((A3.map (·.block)).toList ++ (A4.map (·.block)).toList) ∧ ∀ i ∈ (A3.map (·.block)).toList ++ (A4.map (·.block)).toList, wr.heap.size ≤ i) := fun w3 w4 A3 A4 c3 c4 xr o3 o4 x34 => by
        have l3 : LO kdS 9 w3 A3 c3 x.1 (A3.map (·.block)).toList := Own.loS o3 LS.out
        have f3 : ∀ i ∈ (A3.map (·.block)).toList, wr.heap.size ≤ i ∧ i < w3.heap.size := fun i hi => ⟨Own.fpLoS o3 i hi, l3.lt i hi⟩
        have f4 : ∀ i ∈ (A4.map (·.block)).toList, w3.heap.size ≤ i := OwnI.fpLo o4
        refine ⟨kdItem.mkOwn (d := x) (l3.ext x34) o4.lo_ (fun i hi hi' => by have := f3 i hi; have := f4 i hi'; omega), fun i hi => ?_⟩
        have h5 := xr.size
        rcases List.mem_append.1 hi with h | h
        · exact (f3 i h).1
        · have h4 := f4 i h
          omega
      clear r1 r2 x1
      have cBn := BV.out.cell
      rw [hW1.out] at cBn
      generalize x.1.length = m1 at *
      generalize x.2.1.length = m2 at *
      generalize x.2.2 = m3 at *
      go_wp2
      rw [← hW1.out]
      clear hW1 cBn q0 q1 q2
      go_region_held3 (fun w' => ∀ i, w'.cell? ⟨wr.heap.size, i, none⟩ = #[Value.slice A1 m1 c1, .slice A2 m2 c2, .bool m3][i]?)
        (first | exact BV9.out.cell | exact ((BV.out.ext Y4.out).ext (Ext.alloc w4 (.cells #[.slice A3 m1 c3, .slice A4 m2 c4, .bool m3] 70))).cell | exact (BV.out.ext Y4.out).cell | exact (BV.out.ext Y3.out).cell | exact BV.out.cell)
        (first
        | (refine step_append_LOI (K := kdItem) (by rfl) (.tmp 12) (.tmp 22) (by rfl) elemN_item (by decide) HL.out.symm (by rfl) (by rfl) LO1.out KO1.out D1.out D2.out b1 b2 ?_; intro A9 c9 w9 fp9 hap; have HA := hide hap; have BV9 := hide (((BV.out.ext Y4.out).ext (Ext.alloc w4 (.cells #[.slice A3 m1 c3, .slice A4 m2 c4, .bool m3] 70))).tchF HA.out.tch (fun h => by have := LT.out _ h; omega)); clear hap)
        | (go_at_call 126; refine (CI.out w3 (X1.out.trans Y3.out)).mono ?_; rintro e w4 ⟨A4, c4, rfl, o4, x4⟩; have Y4 := hide (Y3.out.trans x4); have mko := MKO.out w3 w4 A3 A4 c3 c4 (X1.out.trans Y3.out) O3.out o4 x4; have LO1 := hide ((HO.out.ext (X1.out.trans Y4.out)).ext (Ext.alloc w4 (.cells #[.slice A3 m1 c3, .slice A4 m2 c4, .bool m3] 70))); have KO1 := hide (kdItem.own_ext mko.1 (Ext.alloc w4 (.cells #[.slice A3 m1 c3, .slice A4 m2 c4, .bool m3] 70))); have FL := hide mko.2; have D1 : Hid (∀ i ∈ (A3.map (·.block)).toList ++ (A4.map (·.block)).toList, i ∉ fp) := (fun i hi hm => by have h8 := FL.out i hi; have h9 := LT.out i hm; omega); have D2 := hide (item_src w4 (.slice A3 m1 c3) (.slice A4 m2 c4) (.bool m3) 70); clear o4 x4 mko)
        | (go_at_call 151; refine (CS.out W1.drew (X1.out.trans (Ext.drew W1))).mono ?_; rintro e w3 ⟨A3, c3, rfl, o3, x3⟩; have Y3 := hide ((Ext.drew W1).trans x3); have O3 : Hid (Own 9 w3 wr.heap.size A3 m1 c3 (x.1.map strV)) := o3.lower sz1; clear o3 x3))
      all_goals
        go_wp2
        go_roundw
        case rel =>
          have X4 := (HX.out.trans (X1.out.trans Y4.out)).trans (Ext.alloc w4 (.cells #[.slice A3 m1 c3, .slice A4 m2 c4, .bool m3] 70))
          refine ⟨k + 1, A9, c9, fp9, by omega, by go_num, rfl, by rw [HK.out]; exact HA.out.own, fun i hi => ?_, X4.tchF HA.out.tch HF.out⟩
          have h5 := X4.size
          rcases HA.out.sub i hi with h | h | h
          · exact HF.out i h
          · have := FL.out i h; omega
          · rw [h]; exact h5
        case measure => simp [intOf]; omega
    · have ek : n = k := by omega
      subst ek
      go_wp2
      go_ret
      exact ⟨A', c', fp, rfl, by have h8 := HO.out; rwa [List.take_of_length_le (by rw [hn.out]; exact Nat.le_refl _)] at h8, HF.out, HX.out⟩
end Go.Proofs.Ytmckompikbechaa
