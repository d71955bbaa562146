/- A sheet under way in its box: its items, votes and reviews are the call's own; beside it the list it was made of, and the draw's cursor. -/
import Derived.Test.YtofmfagdaiphaaaSJ
import Derived.Test.YtofmfagdaiphaaaGE
import Derived.Test.YtofmfagdaiphaaaGL
import Derived.Test.YtofmfagdaiphaaaGQ
namespace Go.Proofs.Ytofmfagdaiphaaa
open Go.RowKit Go.Sort
set_option linter.unusedVariables false

/-- A sheet that stays readable. -/
def ShR (lo : Nat) (w : World) (v : Value) : Prop := ∃ d : ShD, kSm.ok d ∧ ∀ w2, Since lo w w2 → kSm.rd w2 v d
theorem ShR.since {lo : Nat} {w w2 : World} {v : Value} (h : ShR lo w v) (k : Since lo w w2) : ShR lo w2 v := by
  obtain ⟨d, h1, h2⟩ := h
  exact ⟨d, h1, fun w3 k3 => h2 w3 (k.trans k3)⟩
theorem Since.lessS {lo lo' : Nat} {w w2 : World} (h : Since lo' w w2) (hl : lo' ≤ lo) : Since lo w w2 := ⟨h.1, fun i h1 h2 => h.2 i (Nat.le_trans hl h1) h2⟩
theorem ShR.less {lo lo' : Nat} {w : World} {v : Value} (h : ShR lo w v) (hl : lo' ≤ lo) : ShR lo' w v := by
  obtain ⟨d, h1, h2⟩ := h
  exact ⟨d, h1, fun w2 k => h2 w2 (k.lessS hl)⟩
/-- The list that a sheet is made of: where its items lie, how many names each has. -/
structure LC (w1 : World) (g : Nat) (A : Option Addr) (n c : Nat) (ns : List Nat) : Prop where
  nc : n ≤ c
  cm : c ≤ 9223372036854775807
  n64 : n ≤ 64
  ln : ns.length = n
  it : ∀ i, i < n → ∃ x B C B2 m C2 q, A = some ⟨x, 0, none⟩ ∧ x < w1.heap.size ∧ x ≠ g ∧ w1.cell? ⟨x, i * 3, none⟩ = some (.slice B (ns.getD i 0) C) ∧ w1.cell? ⟨x, i * 3 + 1, none⟩ = some (.slice B2 m C2) ∧ w1.cell? ⟨x, i * 3 + 2, none⟩ = some (.bool q) ∧ 1 ≤ ns.getD i 0 ∧ ns.getD i 0 ≤ 64
theorem LC.at_ {w1 w : World} {g n c i : Nat} {A : Option Addr} {ns : List Nat} (h : LC w1 g A n c ns) (k : TchF [g] w1 w) (hi : i < n) : ∃ x B C B2 m C2 q, A = some ⟨x, 0, none⟩ ∧ x < w1.heap.size ∧ x ≠ g ∧ w.cell? ⟨x, i * 3, none⟩ = some (.slice B (ns.getD i 0) C) ∧ w.cell? ⟨x, i * 3 + 1, none⟩ = some (.slice B2 m C2) ∧ w.cell? ⟨x, i * 3 + 2, none⟩ = some (.bool q) := by
  obtain ⟨x, B, C, B2, m, C2, q, hA, hx, hg, h0, h1, h2, _, _⟩ := h.it i hi
  have cc : ∀ p, w.cell? ⟨x, p, none⟩ = w1.cell? ⟨x, p, none⟩ := fun p => k.cell (p := ⟨x, p, none⟩) hx (by simpa using hg)
  exact ⟨x, B, C, B2, m, C2, q, hA, hx, hg, by rw [cc]; exact h0, by rw [cc]; exact h1, by rw [cc]; exact h2⟩
/-- Votes in the shape of a list. -/
def Shp (ns : List Nat) (vs : List (List (List Int))) : Prop := vs.length = 3 ∧ ∀ (cl : Nat) (v : List (List Int)), vs[cl]? = some v → v.length = ns.length ∧ ∀ (i : Nat) (x : List Int), v[i]? = some x → x.length = ns.getD i 0
theorem Shp.spot {ns : List Nat} {vs : List (List (List Int))} (h : Shp ns vs) {cl i : Nat} (hc : cl < 3) (hi : i < ns.length) : ∃ v x, vs[cl]? = some v ∧ v[i]? = some x ∧ v.length = ns.length ∧ x.length = ns.getD i 0 := by
  have e1 := List.getElem?_eq_getElem (l := vs) (i := cl) (by rw [h.1]; exact hc)
  obtain ⟨h1, h2⟩ := h.2 cl _ e1
  have e2 := List.getElem?_eq_getElem (l := vs[cl]'(by rw [h.1]; exact hc)) (i := i) (by rw [h1]; exact hi)
  exact ⟨_, _, e1, e2, h1, h2 i _ e2⟩
theorem Shp.set {ns : List Nat} {vs : List (List (List Int))} (h : Shp ns vs) (cl i k : Nat) (z : Int) {v : List (List Int)} {x : List Int} (hv : vs[cl]? = some v) (hx : v[i]? = some x) : Shp ns (vs.set cl (v.set i (x.set k z))) := by
  refine ⟨by rw [List.length_set]; exact h.1, fun cl' v' hv' => ?_⟩
  rw [List.getElem?_set] at hv'
  split at hv'
  · next e =>
    subst e
    split at hv'
    · obtain rfl := Option.some.inj hv'
      obtain ⟨h1, h2⟩ := h.2 cl v hv
      refine ⟨by rw [List.length_set]; exact h1, fun i' x' hx' => ?_⟩
      rw [List.getElem?_set] at hx'
      split at hx'
      · next e2 =>
        subst e2
        split at hx'
        · obtain rfl := Option.some.inj hx'
          rw [List.length_set]; exact h2 i x hx
        · cases hx'
      · exact h2 i' x' hx'
    · cases hv'
  · exact h.2 cl' v' hv'
theorem Shp.new {xs : List ItD} {ns : List Nat} (h : ns = xs.map (fun x => x.1.length)) : Shp ns (List.replicate 3 (votesN xs)) := by
  refine ⟨by simp, fun cl v hv => ?_⟩
  have hm := List.mem_of_getElem? hv
  obtain rfl := List.eq_of_mem_replicate hm
  subst h
  refine ⟨by simp [votesN], fun i x hx => ?_⟩
  simp only [votesN, List.getElem?_map, Option.map_eq_some_iff] at hx
  obtain ⟨y, hy, rfl⟩ := hx
  simp [List.getD_eq_getElem?_getD, hy]
/-- A sheet under way. -/
structure ShU (w1 : World) (g M : Nat) (w : World) (b n : Nat) (Ai : Option Addr) (ci : Nat) (xs : List ItD) (f1 : List Nat) (Av : Option Addr) (nv cv : Nat) (vs : List (List (List Int))) (f2 : List Nat) (Ar : Option Addr) (nr cr : Nat) (rs : List RvD) (f3 : List Nat) : Prop where
  k : TchF [g] w1 w
  cu : Cur w g M
  bx : Blk w b #[.slice Ai n ci, .slice Av nv cv, .slice Ar nr cr] 28
  hb : w1.heap.size ≤ b
  gl : g < w1.heap.size
  oi : LO kdItem 50 w Ai ci xs f1
  li : xs.length = n
  ov : LO kdLL 43 w Av cv vs f2
  lv : vs.length = nv
  or_ : LO kdRv 30 w Ar cr rs f3
  lr : rs.length = nr
  d1 : ∀ i ∈ f1, w1.heap.size ≤ i ∧ i ≠ b ∧ i ∉ f2 ∧ i ∉ f3
  d2 : ∀ i ∈ f2, w1.heap.size ≤ i ∧ i ≠ b ∧ i ∉ f3
  d3 : ∀ i ∈ f3, w1.heap.size ≤ i ∧ i ≠ b
section
variable {w1 w w' wx : World} {g M M' b n ci nv cv nr cr : Nat} {Ai Av Ar : Option Addr} {xs : List ItD} {vs : List (List (List Int))} {rs : List RvD} {f1 f2 f3 : List Nat}
theorem ShU.ext (h : ShU w1 g M w b n Ai ci xs f1 Av nv cv vs f2 Ar nr cr rs f3) (x : Ext w w') : ShU w1 g M w' b n Ai ci xs f1 Av nv cv vs f2 Ar nr cr rs f3 :=
  ⟨h.k.stepX x, h.cu.ext x, h.bx.ext x, h.hb, h.gl, h.oi.ext x, h.li, h.ov.ext x, h.lv, h.or_.ext x, h.lr, h.d1, h.d2, h.d3⟩
theorem ShU.curs (h : ShU w1 g M w b n Ai ci xs f1 Av nv cv vs f2 Ar nr cr rs f3) (y : TchF [g] w w') (z : Cur w' g M') : ShU w1 g M' w' b n Ai ci xs f1 Av nv cv vs f2 Ar nr cr rs f3 := by
  have hg := h.gl
  refine ⟨h.k.step y (fun i hi => .inl (by simpa using hi)), z, h.bx.tchF y (by have := h.hb; simp; omega), h.hb, hg, h.oi.keep fun i hi => y.block i (h.oi.lt i hi) (by have := (h.d1 i hi).1; simp; omega), h.li, h.ov.keep fun i hi => y.block i (h.ov.lt i hi) (by have := (h.d2 i hi).1; simp; omega), h.lv, h.or_.keep fun i hi => y.block i (h.or_.lt i hi) (by have := (h.d3 i hi).1; simp; omega), h.lr, h.d1, h.d2, h.d3⟩
theorem ShU.step (h : ShU w1 g M w b n Ai ci xs f1 Av nv cv vs f2 Ar nr cr rs f3) (x : Ext w wx) (y : TchF [g] wx w') (z : Cur w' g M') : ShU w1 g M' w' b n Ai ci xs f1 Av nv cv vs f2 Ar nr cr rs f3 := (h.ext x).curs y z
theorem ShU.more (h : ShU w1 g M w b n Ai ci xs f1 Av nv cv vs f2 Ar nr cr rs f3) (hm : M ≤ M') : ShU w1 g M' w b n Ai ci xs f1 Av nv cv vs f2 Ar nr cr rs f3 :=
  ⟨h.k, h.cu.more hm, h.bx, h.hb, h.gl, h.oi, h.li, h.ov, h.lv, h.or_, h.lr, h.d1, h.d2, h.d3⟩
/-- One vote, where it lies. -/
structure SpV (w : World) (w1 : World) (Av : Option Addr) (f2 : List Nat) (gv v1 c1 v2 c2 n m cl i k : Nat) : Prop where
  av : Av = some ⟨gv, 0, none⟩
  h0 : w.cell? ⟨gv, cl, none⟩ = some (.slice (some ⟨v1, 0, none⟩) n c1)
  h1 : w.cell? ⟨v1, i, none⟩ = some (.slice (some ⟨v2, 0, none⟩) m c2)
  h2 : ∃ z, w.cell? ⟨v2, k, none⟩ = some (.int .i64 z)
  fr : w.frozen? ⟨v2, k, none⟩ = false
  n1 : n ≤ c1
  m1 : c1 ≤ 9223372036854775807
  n2 : m ≤ c2
  m2 : c2 ≤ 9223372036854775807
  l0 : w1.heap.size ≤ gv ∧ gv < w.heap.size
  l1 : w1.heap.size ≤ v1 ∧ v1 < w.heap.size
  l2 : w1.heap.size ≤ v2 ∧ v2 < w.heap.size
  mem : v2 ∈ f2
theorem LO.spotV2 {A : Option Addr} {c : Nat} {fp : List Nat} (h : LO kdLL 43 w A c vs fp) (k i j : Nat) (v : List (List Int)) (x : List Int) (hv : vs[k]? = some v) (hx : v[i]? = some x) (hj : j < x.length) :
    ∃ g g1 c1 g2 c2, A = some ⟨g, 0, none⟩ ∧ w.cell? ⟨g, k, none⟩ = some (.slice (some ⟨g1, 0, none⟩) v.length c1) ∧ v.length ≤ c1 ∧ c1 ≤ 9223372036854775807 ∧ w.cell? ⟨g1, i, none⟩ = some (.slice (some ⟨g2, 0, none⟩) x.length c2) ∧ x.length ≤ c2 ∧ c2 ≤ 9223372036854775807 ∧
      w.cell? ⟨g2, j, none⟩ = some (.int .i64 (x.getD j 0)) ∧ w.frozen? ⟨g2, j, none⟩ = false ∧ g ∈ fp ∧ g1 ∈ fp ∧ g2 ∈ fp ∧ ∀ z, LO kdLL 43 (w.setCell ⟨g2, j, none⟩ (.int .i64 z)) A c (vs.set k (v.set i (x.set j z))) fp := by
  obtain ⟨g, cs, f, hat⟩ := h.at_ k v hv
  obtain ⟨A1, c1, rfl, l1⟩ := hat.own
  obtain ⟨g1, cs1, f1, hat1⟩ := l1.at_ i x hx
  obtain ⟨A2, c2, rfl, l2⟩ := hat1.own
  obtain ⟨o2, hf2⟩ := l2.own
  obtain ⟨g2, rfl, _, _, hc⟩ := o2.pos (by omega)
  have hm2 : g2 ∈ f1 := by rw [hf2]; simp
  have hm1 : g2 ∈ f := (hat1.sub g2 hm2).1
  have ck := hat.cell 0 _ rfl
  rw [show k * kdLL.size + 0 = k from by show k * 1 + 0 = k; omega, hat1.addr] at ck
  have ci := hat1.cell 0 _ rfl
  rw [show i * kdL.size + 0 = i from by show i * 1 + 0 = i; omega] at ci
  refine ⟨g, g1, c1, g2, c2, hat.addr, ck, l1.cap.1, l1.cap.2, ci, hc, o2.capm, o2.cell j hj, o2.free j, hat.mem, (hat.sub g1 hat1.mem).1, (hat.sub g2 hm1).1, fun z => ?_⟩
  have o3 := (o2.set j z).lo_
  have t1 : TchF f1 w (w.setCell ⟨g2, j, none⟩ (.int .i64 z)) := TchF.set1 _ _ _ hm2
  have hr : kdL.own (w.setCell ⟨g2, j, none⟩ (.int .i64 z)) [.slice (some ⟨g2, 0, none⟩) x.length c2] (x.set j z) f1 := by
    refine ⟨some ⟨g2, 0, none⟩, c2, by rw [List.length_set], ?_⟩
    rw [hf2]
    exact o3
  have hl1 := hat1.inplace _ (x.set j z) hr t1
  have hv1 : kdLL.own (w.setCell ⟨g2, j, none⟩ (.int .i64 z)) [.slice A1 v.length c1] (v.set i (x.set j z)) f := ⟨A1, c1, by rw [List.length_set], hl1⟩
  exact hat.inplace _ _ hv1 (t1.more fun q hq => (hat1.sub q hq).1)
variable {v : List (List Int)} {x : List Int} {gv v1 c1 v2 c2 m m' cl i k : Nat}
theorem ShU.spv (h : ShU w1 g M w b n Ai ci xs f1 Av nv cv vs f2 Ar nr cr rs f3) (hv : vs[cl]? = some v) (hx : v[i]? = some x) (hk : k < x.length) (e1 : v.length = m') (e2 : x.length = m) : ∃ gv v1 c1 v2 c2, SpV w w1 Av f2 gv v1 c1 v2 c2 m' m cl i k := by
  obtain ⟨gv, v1, c1, v2, c2, a1, a2, a3, a4, a5, a6, a7, a8, a9, b1, b2, b3, -⟩ := h.ov.spotV2 cl i k v x hv hx hk
  subst e1 e2
  exact ⟨gv, v1, c1, v2, c2, a1, a2, a5, ⟨_, a8⟩, a9, a3, a4, a6, a7, ⟨(h.d2 _ b1).1, h.ov.lt _ b1⟩, ⟨(h.d2 _ b2).1, h.ov.lt _ b2⟩, ⟨(h.d2 _ b3).1, h.ov.lt _ b3⟩, b3⟩
theorem SpV.ext {f : List Nat} (s : SpV w w1 Av f gv v1 c1 v2 c2 n m cl i k) (x : Ext w w') : SpV w' w1 Av f gv v1 c1 v2 c2 n m cl i k := by
  have z := x.size
  refine ⟨s.av, (Below.cell (p := ⟨gv, cl, none⟩) x s.l0.2).trans s.h0, (Below.cell (p := ⟨v1, i, none⟩) x s.l1.2).trans s.h1, ?_, (Below.frozen (p := ⟨v2, k, none⟩) x s.l2.2).trans s.fr, s.n1, s.m1, s.n2, s.m2, ⟨s.l0.1, by have := s.l0.2; omega⟩, ⟨s.l1.1, by have := s.l1.2; omega⟩, ⟨s.l2.1, by have := s.l2.2; omega⟩, s.mem⟩
  obtain ⟨y, hy⟩ := s.h2
  exact ⟨y, (Below.cell (p := ⟨v2, k, none⟩) x s.l2.2).trans hy⟩
theorem SpV.curs {f : List Nat} (s : SpV w w1 Av f gv v1 c1 v2 c2 n m cl i k) (hg : g < w1.heap.size) (y : TchF [g] w w') : SpV w' w1 Av f gv v1 c1 v2 c2 n m cl i k := by
  have z := y.size
  have l0 := s.l0; have l1 := s.l1; have l2 := s.l2
  refine ⟨s.av, (y.cell (p := ⟨gv, cl, none⟩) l0.2 (by simp; omega)).trans s.h0, (y.cell (p := ⟨v1, i, none⟩) l1.2 (by simp; omega)).trans s.h1, ?_, (y.free (p := ⟨v2, k, none⟩) l2.2 (by simp; omega)).trans s.fr, s.n1, s.m1, s.n2, s.m2, ⟨l0.1, by omega⟩, ⟨l1.1, by omega⟩, ⟨l2.1, by omega⟩, s.mem⟩
  obtain ⟨u, hu⟩ := s.h2
  exact ⟨u, (y.cell (p := ⟨v2, k, none⟩) l2.2 (by simp; omega)).trans hu⟩
/-- A vote stored. -/
theorem ShU.vote (h : ShU w1 g M w b n Ai ci xs f1 Av nv cv vs f2 Ar nr cr rs f3) (s : SpV w w1 Av f2 gv v1 c1 v2 c2 m' m cl i k) (hv : vs[cl]? = some v) (hx : v[i]? = some x) (hk : k < x.length) (z : Int) :
    ShU w1 g M (w.setCell ⟨v2, k, none⟩ (.int .i64 z)) b n Ai ci xs f1 Av nv cv (vs.set cl (v.set i (x.set k z))) f2 Ar nr cr rs f3 := by
  obtain ⟨g0, g1, e1, g2, e2, a1, a2, a3, a4, a5, a6, a7, a8, a9, b1, b2, b3, hL⟩ := h.ov.spotV2 cl i k v x hv hx hk
  have q0 := s.av.symm.trans a1
  simp only [Option.some.injEq, Addr.mk.injEq, and_true] at q0
  subst q0
  have q1 := s.h0.symm.trans a2
  simp only [Option.some.injEq, Value.slice.injEq, Addr.mk.injEq, and_true] at q1
  obtain ⟨rfl, -, -⟩ := q1
  have q2 := s.h1.symm.trans a5
  simp only [Option.some.injEq, Value.slice.injEq, Addr.mk.injEq, and_true] at q2
  obtain ⟨rfl, -, -⟩ := q2
  have t := TchF.put w ⟨v2, k, none⟩ (.int .i64 z) (fp := [v2]) (by simp)
  have hd := h.d2 v2 b3
  have hg := h.gl
  refine ⟨h.k.step t (fun i hi => .inr (by simp at hi; omega)), h.cu.tchF t (by simp; omega), h.bx.tchF t (by simp; omega), h.hb, hg, h.oi.keep fun i hi => t.block i (h.oi.lt i hi) (by simp; rintro rfl; exact (h.d1 i hi).2.2.1 b3), h.li, hL z, by rw [List.length_set]; exact h.lv, h.or_.keep fun i hi => t.block i (h.or_.lt i hi) (by simp; rintro rfl; exact hd.2.2 hi), h.lr, h.d1, h.d2, h.d3⟩
end
theorem kSh_read {w : World} {d : ShD} {A A' D : Option Addr} {c c' e : Nat} {f1 f2 f3 : List Nat} {n n' n3 : Nat} (h1 : LO kdItem 50 w A c d.1 f1) (h2 : LO kdLL 43 w A' c' d.2.1 f2) (h3 : LO kdRv 30 w D e d.2.2 f3) (d12 : ∀ i ∈ f1, i ∉ f2) (d13 : ∀ i ∈ f1, i ∉ f3) (d23 : ∀ i ∈ f2, i ∉ f3) (e1 : d.1.length = n) (e2 : d.2.1.length = n') (e3 : d.2.2.length = n3) : kSm.rd w (.agg #[.slice A n c, .slice A' n' c', .slice D n3 e]) d := by
  subst e1 e2 e3
  exact kSm_rdOf h1 h2 h3 d12 d13 d23
/-- What is under way, read for good. -/
theorem ShU.shR {w1 w : World} {g M b n ci nv cv nr cr lo : Nat} {Ai Av Ar : Option Addr} {xs : List ItD} {vs : List (List (List Int))} {rs : List RvD} {f1 f2 f3 : List Nat} (h : ShU w1 g M w b n Ai ci xs f1 Av nv cv vs f2 Ar nr cr rs f3) (hlo : lo ≤ w1.heap.size) (hw : kSm.ok ((xs, vs, rs) : ShD)) : ShR lo w (.agg #[.slice Ai n ci, .slice Av nv cv, .slice Ar nr cr]) :=
  ⟨(xs, vs, rs), hw, fun w2 k => kSh_read (d := (xs, vs, rs)) (h.oi.keep fun i hi => k.2 i (by have := (h.d1 i hi).1; omega) (h.oi.lt i hi)) (h.ov.keep fun i hi => k.2 i (by have := (h.d2 i hi).1; omega) (h.ov.lt i hi)) (h.or_.keep fun i hi => k.2 i (by have := (h.d3 i hi).1; omega) (h.or_.lt i hi)) (fun i hi => (h.d1 i hi).2.2.1) (fun i hi => (h.d1 i hi).2.2.2) (fun i hi => (h.d2 i hi).2.2) h.li h.lv h.lr⟩
end Go.Proofs.Ytofmfagdaiphaaa
