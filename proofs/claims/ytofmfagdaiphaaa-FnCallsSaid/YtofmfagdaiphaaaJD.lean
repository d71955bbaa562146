/- A sheet under way: a mark stored, a review appended, votes cut or made longer. -/
import Derived.Test.YtofmfagdaiphaaaJC
import Derived.Test.YtofmfagdaiphaaaGM
namespace Go.Proofs.Ytofmfagdaiphaaa
open Go.RowKit Go.Sort
set_option linter.unusedVariables false

section
variable {w1 w w' wx : World} {g M M' b n ci nv cv nr cr : Nat} {Ai Av Ar : Option Addr} {xs : List ItD} {vs : List (List (List Int))} {rs : List RvD} {f1 f2 f3 : List Nat}
/-- A review appended. -/
theorem ShU.rev (h : ShU w1 g M w b n Ai ci xs f1 Av nv cv vs f2 Ar nr cr rs f3) {A' : Option Addr} {c' : Nat} {fp' : List Nat} {r : RvD} (hap : ApL kdRv 30 w f3 [] w' A' c' (rs ++ [r]) fp') :
    Blk w' b #[.slice Ai n ci, .slice Av nv cv, .slice Ar nr cr] 28 ∧ ShU w1 g M (w'.setCell ⟨b, 2, none⟩ (.slice A' (nr + 1) c')) b n Ai ci xs f1 Av nv cv vs f2 A' (nr + 1) c' (rs ++ [r]) fp' := by
  have hg := h.gl
  have hbw := h.hb
  have t := hap.tch
  have bl := h.bx.lt
  have hbf : b ∉ f3 := fun hm => (h.d3 b hm).2 rfl
  have bx := h.bx.tchF t hbf
  have hsz := h.k.size
  have sub : ∀ q ∈ fp', w1.heap.size ≤ q ∧ q ≠ b ∧ q ∉ f1 ∧ q ∉ f2 := fun q hq => by
    rcases hap.sub q hq with e | e | e
    · exact ⟨(h.d3 q e).1, (h.d3 q e).2, fun hm => (h.d1 q hm).2.2.2 e, fun hm => (h.d2 q hm).2.2 e⟩
    · simp at e
    · refine ⟨by omega, by omega, fun hm => ?_, fun hm => ?_⟩
      · have := h.oi.lt q hm; omega
      · have := h.ov.lt q hm; omega
  have t2 := TchF.put w' ⟨b, 2, none⟩ (.slice A' (nr + 1) c') (fp := [b]) (by simp)
  have far : ∀ q, q ≠ b → (w'.setCell ⟨b, 2, none⟩ (.slice A' (nr + 1) c')).heap[q]? = w'.heap[q]? := fun q hq => Below.heap_setCell _ _ _ _ hq
  refine ⟨bx, (h.k.step t (fun i hi => .inr (h.d3 i hi).1)).step t2 (fun i hi => .inr (by simp at hi; omega)), (h.cu.tchF t (fun i hi => by have := (h.d3 i hi).1; omega)).tchF t2 (by simp; omega), bx.set 2 _, hbw, hg, ?_, h.li, ?_, h.lv, ?_, by rw [List.length_append, h.lr]; rfl, fun i hi => ⟨(h.d1 i hi).1, (h.d1 i hi).2.1, (h.d1 i hi).2.2.1, fun hm => (sub i hm).2.2.1 hi⟩, fun i hi => ⟨(h.d2 i hi).1, (h.d2 i hi).2.1, fun hm => (sub i hm).2.2.2 hi⟩, fun i hi => ⟨(sub i hi).1, (sub i hi).2.1⟩⟩
  · exact (h.oi.keep fun i hi => t.block i (h.oi.lt i hi) (h.d1 i hi).2.2.2).keep fun i hi => far i (h.d1 i hi).2.1
  · exact (h.ov.keep fun i hi => t.block i (h.ov.lt i hi) (h.d2 i hi).2.2).keep fun i hi => far i (h.d2 i hi).2.1
  · exact hap.own.keep fun i hi => far i (sub i hi).2.1
/-- One mark, where it lies. -/
structure SpI (w w1 : World) (Ai : Option Addr) (f1 : List Nat) (gi A1 : Nat) (m c2 i : Nat) : Prop where
  ai : Ai = some ⟨gi, 0, none⟩
  h1 : w.cell? ⟨gi, i * 3 + 1, none⟩ = some (.slice (some ⟨A1, 0, none⟩) m c2)
  h2 : ∃ z, w.cell? ⟨A1, 0, none⟩ = some (.int .i64 z)
  fr : w.frozen? ⟨A1, 0, none⟩ = false
  m0 : 0 < m
  n2 : m ≤ c2
  m2 : c2 ≤ 9223372036854775807
  l0 : w1.heap.size ≤ gi ∧ gi < w.heap.size
  l1 : w1.heap.size ≤ A1 ∧ A1 < w.heap.size
  mem : A1 ∈ f1
variable {gi A1 m c2 i : Nat} {x : ItD}
theorem ShU.spi (h : ShU w1 g M w b n Ai ci xs f1 Av nv cv vs f2 Ar nr cr rs f3) (hx : xs[i]? = some x) (hk : 0 < x.2.1.length) (e : x.2.1.length = m) : ∃ gi A1 c2, SpI w w1 Ai f1 gi A1 m c2 i := by
  obtain ⟨g0, B1, e1, gx, e2, a1, a2, a3, a4, a5, a6, a7, a8, a9, b1, b2, -⟩ := h.oi.spotI i x hx 0 hk
  subst e
  exact ⟨g0, gx, e2, a1, a6, ⟨_, b1⟩, b2, hk, a8, a9, ⟨(h.d1 _ a2).1, h.oi.lt _ a2⟩, ⟨(h.d1 _ a3).1, h.oi.lt _ a3⟩, a3⟩
theorem SpI.ext (s : SpI w w1 Ai f1 gi A1 m c2 i) (x : Ext w w') : SpI w' w1 Ai f1 gi A1 m c2 i := by
  have z := x.size
  refine ⟨s.ai, (Below.cell (p := ⟨gi, i * 3 + 1, none⟩) x s.l0.2).trans s.h1, ?_, (Below.frozen (p := ⟨A1, 0, none⟩) x s.l1.2).trans s.fr, s.m0, s.n2, s.m2, ⟨s.l0.1, by have := s.l0.2; omega⟩, ⟨s.l1.1, by have := s.l1.2; omega⟩, s.mem⟩
  obtain ⟨y, hy⟩ := s.h2
  exact ⟨y, (Below.cell (p := ⟨A1, 0, none⟩) x s.l1.2).trans hy⟩
theorem SpI.curs (s : SpI w w1 Ai f1 gi A1 m c2 i) (hg : g < w1.heap.size) (y : TchF [g] w w') : SpI w' w1 Ai f1 gi A1 m c2 i := by
  have z := y.size
  have l0 := s.l0; have l1 := s.l1
  refine ⟨s.ai, (y.cell (p := ⟨gi, i * 3 + 1, none⟩) l0.2 (by simp; omega)).trans s.h1, ?_, (y.free (p := ⟨A1, 0, none⟩) l1.2 (by simp; omega)).trans s.fr, s.m0, s.n2, s.m2, ⟨l0.1, by omega⟩, ⟨l1.1, by omega⟩, s.mem⟩
  obtain ⟨u, hu⟩ := s.h2
  exact ⟨u, (y.cell (p := ⟨A1, 0, none⟩) l1.2 (by simp; omega)).trans hu⟩
/-- A mark stored. -/
theorem ShU.mark (h : ShU w1 g M w b n Ai ci xs f1 Av nv cv vs f2 Ar nr cr rs f3) (s : SpI w w1 Ai f1 gi A1 m c2 i) (hx : xs[i]? = some x) (z : Int) :
    ShU w1 g M (w.setCell ⟨A1, 0, none⟩ (.int .i64 z)) b n Ai ci (xs.set i (x.1, x.2.1.set 0 z, x.2.2)) f1 Av nv cv vs f2 Ar nr cr rs f3 := by
  have hm := s.h1
  have hk : 0 < x.2.1.length := by
    rcases Nat.eq_zero_or_pos x.2.1.length with e | e
    · exfalso
      obtain ⟨gq, csq, fq, hat⟩ := h.oi.at_ i x hx
      obtain ⟨v1, v2, f4, f5, hcs0, ⟨A3, c3, rfl, l3⟩, ⟨v3, v4, f6, f7, rfl, ⟨A4, c4, rfl, l4⟩, -, -, -⟩, -, -⟩ := hat.own
      have hcs0 : csq = [.slice A3 x.1.length c3, .slice A4 x.2.1.length c4] ++ v4 := hcs0
      have ck := hat.cell 1 (.slice A4 x.2.1.length c4) (by rw [hcs0]; rfl)
      have q0 := s.ai.symm.trans hat.addr
      simp only [Option.some.injEq, Addr.mk.injEq, and_true] at q0
      subst q0
      have q1 := s.h1.symm.trans ck
      simp only [Option.some.injEq, Value.slice.injEq] at q1
      have := s.m0
      omega
    · exact e
  obtain ⟨g0, B1, e1, gx, e2, a1, a2, a3, a4, a5, a6, a7, a8, a9, b1, b2, hL⟩ := h.oi.spotI i x hx 0 hk
  have q0 := s.ai.symm.trans a1
  simp only [Option.some.injEq, Addr.mk.injEq, and_true] at q0
  subst q0
  have q1 := s.h1.symm.trans a6
  simp only [Option.some.injEq, Value.slice.injEq, Addr.mk.injEq, and_true] at q1
  obtain ⟨rfl, -, -⟩ := q1
  have t := TchF.put w ⟨A1, 0, none⟩ (.int .i64 z) (fp := [A1]) (by simp)
  have hd := h.d1 A1 s.mem
  have hg := h.gl
  refine ⟨h.k.step t (fun i hi => .inr (by simp at hi; omega)), h.cu.tchF t (by simp; omega), h.bx.tchF t (by simp; omega), h.hb, hg, hL z, by rw [List.length_set]; exact h.li, h.ov.keep fun i hi => t.block i (h.ov.lt i hi) (by simp; rintro rfl; exact hd.2.2.1 hi), h.lv, h.or_.keep fun i hi => t.block i (h.or_.lt i hi) (by simp; rintro rfl; exact hd.2.2.2 hi), h.lr, h.d1, h.d2, h.d3⟩
theorem kSh_lrs {w : World} {d : ShD} {A A' D : Option Addr} {c c' e n n' n3 : Nat} (h1 : LR kdItem w w.heap.size A c d.1) (h2 : LR kdLL w w.heap.size A' c' d.2.1) (h3 : LR kdRv w w.heap.size D e d.2.2) (e1 : d.1.length = n) (e2 : d.2.1.length = n') (e3 : d.2.2.length = n3) : kSm.rd w (.agg #[.slice A n c, .slice A' n' c', .slice D n3 e]) d := by
  subst e1 e2 e3
  exact ⟨_, rfl, ⟨[.slice A d.1.length c], [.slice A' d.2.1.length c', .slice D d.2.2.length e], rfl, ⟨A, c, rfl, h1⟩, [.slice A' d.2.1.length c'], [.slice D d.2.2.length e], rfl, ⟨A', c', rfl, h2⟩, ⟨D, e, rfl, h3⟩⟩⟩
/-- The votes cut. -/
theorem ShU.cut (h : ShU w1 g M w b n Ai ci xs f1 Av nv cv vs f2 Ar nr cr rs f3) {lo q : Nat} (hlo : lo ≤ w1.heap.size) (hq : q ≤ nv) (hw : kSm.ok ((xs, vs.take q, rs) : ShD)) : ShR lo (w.setCell ⟨b, 1, none⟩ (.slice Av q cv)) (.agg #[.slice Ai n ci, .slice Av q cv, .slice Ar nr cr]) := by
  have far : ∀ p, p ≠ b → (w.setCell ⟨b, 1, none⟩ (.slice Av q cv)).heap[p]? = w.heap[p]? := fun p hp => Below.heap_setCell _ _ _ _ hp
  have hz : (w.setCell ⟨b, 1, none⟩ (.slice Av q cv)).heap.size = w.heap.size := by simp [World.setCell]
  refine ⟨(xs, vs.take q, rs), hw, fun w2 k => ?_⟩
  have o1 := (h.oi.keep (w' := w2) fun i hi => (k.2 i (by have := (h.d1 i hi).1; omega) (by rw [hz]; exact h.oi.lt i hi)).trans (far i (h.d1 i hi).2.1))
  have o2 := (h.ov.keep (w' := w2) fun i hi => (k.2 i (by have := (h.d2 i hi).1; omega) (by rw [hz]; exact h.ov.lt i hi)).trans (far i (h.d2 i hi).2.1))
  have o3 := (h.or_.keep (w' := w2) fun i hi => (k.2 i (by have := (h.d3 i hi).1; omega) (by rw [hz]; exact h.or_.lt i hi)).trans (far i (h.d3 i hi).2))
  obtain ⟨r1, r2, r3⟩ := o2.rd
  have hl : (vs.take q).length = q := by rw [List.length_take, h.lv]; omega
  refine kSh_lrs (d := (xs, vs.take q, rs)) o1.rd ⟨by rw [hl]; have := h.lv; omega, r2, fun j x hj => r3 j x ?_⟩ o3.rd h.li hl h.lr
  rw [List.getElem?_take] at hj
  split at hj
  · exact hj
  · cases hj
theorem setCell_sameHeap {w : World} {b o : Nat} {u : Value} (h : w.cell? ⟨b, o, none⟩ = some u) (q : Nat) : (w.setCell ⟨b, o, none⟩ u).heap[q]? = w.heap[q]? := by
  by_cases e : q = b
  · subst e
    unfold World.cell? at h
    simp only [Option.isSome_none, Bool.false_eq_true, if_false] at h
    split at h
    · next c t f hb =>
      have hc : c.setIfInBounds o u = c := by
        apply Array.ext_getElem?
        intro i
        rw [Array.getElem?_setIfInBounds]
        split
        · next ei =>
          subst ei
          split
          · exact h.symm
          · next hn => rw [Array.getElem?_eq_none (by omega)] at h; cases h
        · rfl
      show (w.heap.modify q _)[q]? = w.heap[q]?
      rw [Array.getElem?_modify]
      simp [hb, hc]
    · cases h
  · exact Below.heap_setCell w ⟨b, o, none⟩ u q e
/-- One row of votes made longer. -/
theorem ShU.long {i : Nat} (h : ShU w1 g M w b n Ai ci xs f1 Av nv cv vs f2 Ar nr cr rs f3) {v0 : List (List Int)} {y : List Int} (hv : vs[0]? = some v0) (hy : v0[i]? = some y) :
    ∃ gv v1 c1 Ax cx, Av = some ⟨gv, 0, none⟩ ∧ w.cell? ⟨gv, 0, none⟩ = some (.slice (some ⟨v1, 0, none⟩) v0.length c1) ∧ v0.length ≤ c1 ∧ c1 ≤ 9223372036854775807 ∧ w.cell? ⟨v1, i, none⟩ = some (.slice Ax y.length cx) ∧ OwnI 3 w 0 Ax y.length cx y ∧ gv < w.heap.size ∧ v1 < w.heap.size ∧ w1.heap.size ≤ gv ∧ w1.heap.size ≤ v1 ∧ gv ≠ b ∧ v1 ≠ b ∧ gv ≠ v1 ∧
      ∀ w' A2 n2 c2 y2, Apd 3 w 0 Ax w' A2 n2 c2 (y2.map (Value.int .i64)) → w'.cell? ⟨gv, 0, none⟩ = some (.slice (some ⟨v1, 0, none⟩) v0.length c1) ∧ w'.cell? ⟨v1, i, none⟩ = some (.slice Ax y.length cx) ∧ w'.frozen? ⟨v1, i, none⟩ = false ∧ Blk w' b #[.slice Ai n ci, .slice Av nv cv, .slice Ar nr cr] 28 ∧ TchF f2 w w' ∧
        ∃ f4, ShU w1 g M (w'.setCell ⟨v1, i, none⟩ (.slice A2 n2 c2)) b n Ai ci xs f1 Av nv cv (vs.set 0 (v0.set i y2)) f4 Ar nr cr rs f3 := by
  have hg := h.gl
  have hb := h.hb
  obtain ⟨gv, cs, f, hat⟩ := h.ov.at_ 0 v0 hv
  obtain ⟨B1, c1, rfl, l1⟩ := hat.own
  obtain ⟨v1, Ax, cx, rfl, hm1, hc1, hf1, hox, hsx, hgr⟩ := l1.grow i y hy
  have ck := hat.cell 0 _ rfl
  rw [show 0 * kdLL.size + 0 = 0 from rfl] at ck
  have hgm := hat.mem
  have hv1 := hat.sub v1 hm1
  have hfs : ∀ j ∈ f, j ∈ f2 ∧ j ≠ gv := fun j hj => hat.sub j hj
  have dgv := h.d2 gv hgm
  have dv1 := h.d2 v1 hv1.1
  refine ⟨gv, v1, c1, Ax, cx, hat.addr, ck, l1.cap.1, l1.cap.2, hc1, hox, h.ov.lt gv hgm, h.ov.lt v1 hv1.1, dgv.1, dv1.1, dgv.2.1, dv1.2.1, Ne.symm hv1.2, fun w' A2 n2 c2 y2 hap => ?_⟩
  obtain ⟨k1, k2, k3, fp', k4, k5⟩ := hgr w' A2 n2 c2 y2 hap
  have k3' : TchF f2 w w' := k3.more fun j hj => (hfs j hj).1
  have gnf : gv ∉ f := fun hm => (hfs gv hm).2 rfl
  have bnf : b ∉ f2 := fun hm => (h.d2 b hm).2.1 rfl
  have t2 := TchF.put w' ⟨v1, i, none⟩ (.slice A2 n2 c2) (fp := [v1]) (by simp)
  have t2f := TchF.put w' ⟨v1, i, none⟩ (.slice A2 n2 c2) (fp := f) hm1
  have hsz := h.k.size
  have cgv := (k3.cell (p := ⟨gv, 0, none⟩) (h.ov.lt gv hgm) gnf).trans ck
  refine ⟨cgv, k1, k2, h.bx.tchF k3' bnf, k3', ?_⟩
  have hown : kdLL.own (w'.setCell ⟨v1, i, none⟩ (.slice A2 n2 c2)) [.slice (some ⟨v1, 0, none⟩) v0.length c1] (v0.set i y2) fp' := ⟨_, c1, by rw [List.length_set], k4⟩
  obtain ⟨f4, q1, q2⟩ := hat.store _ _ (v0.set i y2) fp' hown (k3.trans t2f) (fun j hj => by
    rcases k5 j hj with e | e
    · exact .inl e
    · exact .inr fun hm => by have := h.ov.lt j hm; omega)
  rw [one_cells _ gv 0 _ kdLL.size rfl] at q1
  have cg2 : (w'.setCell ⟨v1, i, none⟩ (.slice A2 n2 c2)).cell? ⟨gv, 0, none⟩ = some (.slice (some ⟨v1, 0, none⟩) v0.length c1) := by
    rw [World.cell?_of_block (w := w') (Below.heap_setCell _ _ _ _ (Ne.symm hv1.2))]; exact cgv
  have q3 := q1.keep (w' := w'.setCell ⟨v1, i, none⟩ (.slice A2 n2 c2)) fun p _ => (setCell_sameHeap cg2 p).symm
  have sub4 : ∀ j ∈ f4, j ∈ f2 ∨ j = w.heap.size := fun j hj => by
    rcases q2 j hj with e | e
    · exact .inl e
    · rcases k5 j e with e2 | e2
      · exact .inl (hfs j e2).1
      · exact .inr e2
  have bl := h.bx.lt
  have far : ∀ p, p ∉ f2 → p < w.heap.size → (w'.setCell ⟨v1, i, none⟩ (.slice A2 n2 c2)).heap[p]? = w.heap[p]? := fun p h1 h2 => (Below.heap_setCell w' ⟨v1, i, none⟩ _ p (fun e => h1 (by rw [show p = v1 from e]; exact hv1.1))).trans (k3'.block p h2 h1)
  refine ⟨f4, (h.k.step k3' (fun j hj => .inr (h.d2 j hj).1)).step t2 (fun j hj => .inr (by simp at hj; omega)), (h.cu.tchF k3' (fun j hj => by have := (h.d2 j hj).1; omega)).tchF t2 (by simp; omega), (h.bx.tchF k3' bnf).tchF t2 (by simp; exact Ne.symm dv1.2.1), hb, hg, h.oi.keep fun j hj => far j (h.d1 j hj).2.2.1 (h.oi.lt j hj), h.li, q3, by rw [List.length_set]; exact h.lv, h.or_.keep fun j hj => far j (fun hm => (h.d2 j hm).2.2 hj) (h.or_.lt j hj), h.lr, fun j hj => ⟨(h.d1 j hj).1, (h.d1 j hj).2.1, fun hm => ?_, (h.d1 j hj).2.2.2⟩, fun j hj => ?_, h.d3⟩
  · rcases sub4 j hm with e | e
    · exact (h.d1 j hj).2.2.1 e
    · have := h.oi.lt j hj; omega
  · rcases sub4 j hj with e | e
    · exact h.d2 j e
    · refine ⟨by omega, by omega, fun hm => ?_⟩
      have := h.or_.lt j hm
      omega
end
/-- A sheet newly made, in its box. -/
theorem ShU.start {w1 w' : World} {g M n c3 c5 : Nat} {A3 A5 : Option Addr} {xs : List ItD} {vs : List (List (List Int))} {f : List Nat} (cu : Cur w1 g M) (x : Ext w1 w') (h : kdSh.own w' [.slice A3 n c3, .slice A5 3 c5, .slice none 0 0] (xs, vs, []) f) (hf : ∀ i ∈ f, w1.heap.size ≤ i) (hn : xs.length = n) (hv : vs.length = 3) :
    ∃ f1 f2 f3, ShU w1 g M (w'.alloc (.cells #[.slice A3 n c3, .slice A5 3 c5, .slice none 0 0] 28)) w'.heap.size n A3 c3 xs f1 A5 3 c5 vs f2 none 0 0 [] f3 := by
  subst hn
  obtain ⟨v1, v2, f1, f0, hvs, ⟨B3, d3, rfl, o1⟩, ⟨v3, v4, f2, f3, rfl, ⟨B5, d5, rfl, o2⟩, ⟨B0, d0, rfl, o3⟩, rfl, hnd2⟩, rfl, hnd⟩ := h
  simp only [List.cons_append, List.nil_append, List.cons.injEq, Value.slice.injEq, and_true] at hvs
  obtain ⟨⟨rfl, -, rfl⟩, ⟨rfl, -, rfl⟩, ⟨rfl, -, rfl⟩⟩ := hvs
  have xa := Ext.alloc w' (.cells #[.slice A3 xs.length c3, .slice A5 3 c5, .slice none 0 0] 28)
  rw [List.nodup_append] at hnd hnd2
  exact ⟨f1, f2, f3, TchF.of_ext (x.trans xa), cu.ext (x.trans xa), Blk.new rfl _ _, x.size, cu.lt, o1.ext xa, rfl, o2.ext xa, hv, o3.ext xa, rfl, fun i hi => ⟨hf i (by simp [hi]), by have := o1.lt i hi; omega, fun hm => hnd.2.2 i hi i (by simp [hm]) rfl, fun hm => hnd.2.2 i hi i (by simp [hm]) rfl⟩, fun i hi => ⟨hf i (by simp [hi]), by have := o2.lt i hi; omega, fun hm => hnd2.2.2 i hi i hm rfl⟩, fun i hi => ⟨hf i (by simp [hi]), by have := o3.lt i hi; omega⟩⟩
end Go.Proofs.Ytofmfagdaiphaaa
