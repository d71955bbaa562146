/- Marks whose lists share a row, or hold a part of one. -/
import Derived.Test.YtifdpmpconjhmaaDD
import Derived.Test.YtifdpmpconjhmaaMU
import Derived.Deep.OwnRows
namespace Go.Proofs.Ytifdpmpconjhmaa
open Go.RowKit Go.Sort
set_option linter.unusedVariables false

theorem LO.rowAt {w : World} {A : Option Addr} {c : Nat} {xs : List (List Int)} {fp : List Nat} (h : LO kdL 36 w A c xs fp) (k : Nat) (x : List Int) (hx : xs[k]? = some x) :
    ∃ g Ax cx f, A = some ⟨g, 0, none⟩ ∧ g ∈ fp ∧ w.cell? ⟨g, k, none⟩ = some (.slice Ax x.length cx) ∧ w.frozen? ⟨g, k, none⟩ = false ∧ LO kdInt 3 w Ax cx x f ∧ ∀ i ∈ f, i ∈ fp ∧ i ≠ g := by
  obtain ⟨g, cs, f, hat⟩ := h.at_ k x hx
  obtain ⟨Ax, cx, hcs, hlo⟩ := hat.own
  have hcs : cs = [.slice Ax x.length cx] := hcs
  subst hcs
  have hc : w.cell? ⟨g, k, none⟩ = some (.slice Ax x.length cx) := by
    have := hat.cell 0 _ rfl
    simpa [kdL, kdList] using this
  exact ⟨g, Ax, cx, f, hat.addr, hat.mem, hc, hat.free k, hlo, hat.sub⟩
theorem LO.flatOwn {w : World} {A : Option Addr} {c : Nat} {xs : List (List Int)} {fp : List Nat} (h : LO kdL 36 w A c xs fp) : ∃ vs, Own 36 w 0 A xs.length c vs := by
  obtain ⟨css, fps, hr, _⟩ := h
  exact ⟨css.flatten, hr⟩
theorem SlI.drop1 {w : World} {B n : Nat} {g : Nat} {x : List Int} (h : SlI w B (some ⟨g, 0, none⟩) n x) (hn : 0 < n) : SlI w B (some ⟨g, 1, none⟩) (n - 1) (x.drop 1) := by
  have hl := h.len
  obtain ⟨b, off, e, hb, hc⟩ := h.2 hn
  simp only [Option.some.injEq, Addr.mk.injEq, and_true] at e
  obtain ⟨rfl, rfl⟩ := e
  refine ⟨by simp; omega, fun _ => ⟨g, 1, rfl, hb, fun k u hu => ?_⟩⟩
  have := hc (k + 1) u (by rw [← hu]; simp)
  rwa [show 0 + (k + 1) = 1 + k by omega] at this

section
variable {w wr : World} {g g5 : Nat} {A : Option Addr} {c : Nat} {A' : Option Addr} {c' : Nat} {d : MD} {fp fp' : List Nat}
/-- One row of the second list cut by its first number. -/
theorem AmSt.share4 (h : AmSt w wr g g5 A c A' c' d fp fp') (k1 : Nat) (x : List Int) (hx : d.2[k1]? = some x) (hx0 : 0 < x.length) :
    ∃ gC gx cx, A' = some ⟨gC, 0, none⟩ ∧ gC ∈ fp' ∧ wr.cell? ⟨gC, k1, none⟩ = some (.slice (some ⟨gx, 0, none⟩) x.length cx) ∧ wr.frozen? ⟨gC, k1, none⟩ = false ∧ x.length ≤ cx ∧ cx ≤ 9223372036854775807 ∧
      ∀ wz, Ext wr wz → RdA kM (w.heap.size + 1) (wz.setCell ⟨gC, k1, none⟩ (.slice (some ⟨gx, 1, none⟩) (x.length - 1) (cx - 1))) (.agg #[.slice A d.1.length c, .slice A' d.2.length c']) (d.1, d.2.set k1 (x.drop 1)) := by
  obtain ⟨gC, Ax, cx, f, rfl, hm, hc, hfz, hlo, hf⟩ := h.oc.rowAt k1 x hx
  have ho := hlo.own.1
  obtain ⟨gx, rfl, _, _, hcx⟩ := ho.pos hx0
  have hk1 := (List.getElem?_eq_some_iff.1 hx).1
  refine ⟨gC, gx, cx, rfl, hm, hc, hfz, hcx, ho.capm, fun wz hz w2 hs hb => ?_⟩
  have hs : wz.heap.size ≤ w2.heap.size := by simpa [World.setCell] using hs
  have hk : ∀ i, w.heap.size < i → i < wr.heap.size → i ≠ gC → w2.heap[i]? = wr.heap[i]? := fun i h1 h2 h3 =>
    ((hb i (by omega) (by have := hz.size; simp [World.setCell]; omega)).trans (Below.heap_setCell _ _ _ _ h3)).trans (hz.block i h2)
  have kG : ∀ i ∈ fp, w2.heap[i]? = wr.heap[i]? := fun i hi => hk i (h.bg i hi).1 (h.og.lt i hi) (fun e => h.dj i hi (e ▸ hm))
  have rG := (h.og.keep kG).rd
  obtain ⟨vs, hv⟩ := h.oc.flatOwn
  have gl : gC < wr.heap.size := h.oc.lt gC hm
  have hv2 : Own 36 w2 0 (some ⟨gC, 0, none⟩) d.2.length c' (vs.set k1 (.slice (some ⟨gx, 1, none⟩) (x.length - 1) (cx - 1))) := by
    have hz1 : Own 36 wz 0 (some ⟨gC, 0, none⟩) d.2.length c' vs := hv.keepB (fun p hp => by cases hp; exact hz.block gC gl)
    refine (Own.set hz1 k1 (.slice (some ⟨gx, 1, none⟩) (x.length - 1) (cx - 1))).keepB (fun p hp => ?_)
    cases hp
    exact hb gC (by have := (h.bc gC hm).1; omega) (by have := hz.size; simp [World.setCell]; omega)
  have hvl := hv.len
  have rC : LR kdL w2 w2.heap.size (some ⟨gC, 0, none⟩) c' (d.2.set k1 (x.drop 1)) := by
    refine LR.of_cells (by have := hz.size; omega) (by rw [List.length_set]; exact hv.capn) hv.capm (fun k y hy => ?_)
    have hkl : k < d.2.length := by have := (List.getElem?_eq_some_iff.1 hy).1; simpa using this
    have hcell := hv2.cell k hkl
    rw [List.getElem?_set] at hcell hy
    by_cases e : k1 = k
    · subst e
      rw [if_pos rfl, if_pos hk1] at hy
      rw [if_pos rfl, if_pos (by omega)] at hcell
      injection hy with hy
      subst hy
      refine ⟨some ⟨gx, 1, none⟩, cx - 1, by rw [hcell]; simp, ?_⟩
      have kx : ∀ i ∈ f, w2.heap[i]? = wr.heap[i]? := fun i hi => hk i (h.bc i (hf i hi).1).1 (h.oc.lt i (hf i hi).1) (hf i hi).2
      have s1 := ((hlo.keep kx).rd).sl.drop1 hx0
      refine s1.lr ?_ ?_
      · simp; omega
      · have := ho.capm; omega
    · rw [if_neg e] at hy hcell
      obtain ⟨gC', Ay, cy, fy, e1, _, hcy, _, hly, hfy⟩ := h.oc.rowAt k y hy
      simp only [Option.some.injEq, Addr.mk.injEq, and_true] at e1
      subst e1
      have ky : ∀ i ∈ fy, w2.heap[i]? = wr.heap[i]? := fun i hi => hk i (h.bc i (hfy i hi).1).1 (h.oc.lt i (hfy i hi).1) (hfy i hi).2
      have h9 := hv.cell k hkl
      exact ⟨Ay, cy, by rw [hcell, ← h9]; exact hcy, (hly.keep ky).rd⟩
  have e2 : d.2.length = (d.2.set k1 (x.drop 1)).length := by simp
  rw [e2]
  exact LR.mk rG rC
/-- The first row once more at the end. -/
theorem AmSt.share3 (h : AmSt w wr g g5 A c A' c' d fp fp') (x : List Int) (hx : d.2[0]? = some x) :
    ∃ gC Ax cx vs, A' = some ⟨gC, 0, none⟩ ∧ gC ∈ fp' ∧ wr.cell? ⟨gC, 0, none⟩ = some (.slice Ax x.length cx) ∧ x.length ≤ cx ∧ cx ≤ 9223372036854775807 ∧ Own 36 wr 0 A' d.2.length c' vs ∧
      ∀ wq w3 A3 c3 u, Ext wr wq → Apd 36 wq 0 A' w3 A3 (d.2.length + 1) c3 (vs ++ [.slice Ax x.length cx]) → RdA kM (w.heap.size + 1) (w3.setCell ⟨g5, 1, none⟩ u) (.agg #[.slice A d.1.length c, .slice A3 (d.2.length + 1) c3]) (d.1, d.2 ++ [x]) := by
  obtain ⟨gC, Ax, cx, f, rfl, hm, hc, _, hlo, hf⟩ := h.oc.rowAt 0 x hx
  have ho := hlo.own.1
  obtain ⟨vs, hv⟩ := h.oc.flatOwn
  refine ⟨gC, Ax, cx, vs, rfl, hm, hc, ho.capn, ho.capm, hv, fun wq w3 A3 c3 u hz hap w2 hs hb => ?_⟩
  have hs : w3.heap.size ≤ w2.heap.size := by simpa [World.setCell] using hs
  have hs3 := hap.grew.size
  have hzs := hz.size
  have g5l := h.b5.lt
  have hk : ∀ i, w.heap.size < i → i < wr.heap.size → i ≠ gC → i ≠ g5 → w2.heap[i]? = wr.heap[i]? := fun i h1 h2 h3 h4 =>
    (((hb i (by omega) (by simp [World.setCell]; omega)).trans (Below.heap_setCell _ _ _ _ (by simpa using h4))).trans (hap.grew.block i (by omega) (by simpa using h3))).trans (hz.block i h2)
  have kG : ∀ i ∈ fp, w2.heap[i]? = wr.heap[i]? := fun i hi => hk i (h.bg i hi).1 (h.og.lt i hi) (fun e => h.dj i hi (e ▸ hm)) (h.bg i hi).2
  have rG := (h.og.keep kG).rd
  have hn3 : 0 < d.2.length + 1 := by omega
  obtain ⟨g3, rfl, _, g3l, hc3⟩ := hap.own.pos hn3
  have g3h : w.heap.size < g3 ∧ g3 ≠ g5 := by
    rcases hap.where_ with e | e
    · simp at e
      rw [e]
      exact h.bc gC hm
    · simp at e
      have := h.tch.size
      have := h.h5
      omega
  have hv2 : Own 36 w2 0 (some ⟨g3, 0, none⟩) (d.2.length + 1) c3 (vs ++ [.slice Ax x.length cx]) := by
    refine hap.own.keepB (fun p hp => ?_)
    cases hp
    exact (hb g3 (by omega) (by simp [World.setCell]; omega)).trans (Below.heap_setCell _ _ _ _ (by simpa using g3h.2))
  have hvl := hv.len
  have hrow : ∀ (k : Nat) (y : List Int), d.2[k]? = some y → ∃ Ay cy, vs[k]? = some (.slice Ay y.length cy) ∧ LR kdInt w2 w2.heap.size Ay cy y := by
    intro k y hy
    obtain ⟨gC', Ay, cy, fy, e1, _, hcy, _, hly, hfy⟩ := h.oc.rowAt k y hy
    simp only [Option.some.injEq, Addr.mk.injEq, and_true] at e1
    subst e1
    have ky : ∀ i ∈ fy, w2.heap[i]? = wr.heap[i]? := fun i hi => hk i (h.bc i (hfy i hi).1).1 (h.oc.lt i (hfy i hi).1) (hfy i hi).2 (h.bc i (hfy i hi).1).2
    have h9 := hv.cell k (List.getElem?_eq_some_iff.1 hy).1
    exact ⟨Ay, cy, by rw [← h9]; exact hcy, (hly.keep ky).rd⟩
  have rC : LR kdL w2 w2.heap.size (some ⟨g3, 0, none⟩) c3 (d.2 ++ [x]) := by
    refine LR.of_cells (by omega) (by simpa using hap.own.capn) hap.own.capm (fun k y hy => ?_)
    have hkl : k < d.2.length + 1 := by have := (List.getElem?_eq_some_iff.1 hy).1; simpa using this
    have hcell := hv2.cell k hkl
    by_cases e : k < d.2.length
    · rw [List.getElem?_append_left e] at hy
      rw [List.getElem?_append_left (by omega)] at hcell
      obtain ⟨Ay, cy, h1, h2⟩ := hrow k y hy
      exact ⟨Ay, cy, by rw [hcell, h1], h2⟩
    · obtain rfl : k = d.2.length := by omega
      rw [List.getElem?_append_right (Nat.le_refl _), Nat.sub_self] at hy
      rw [List.getElem?_append_right (by omega), hvl, Nat.sub_self] at hcell
      simp only [List.getElem?_cons_zero, Option.some.injEq] at hy
      subst hy
      obtain ⟨Ay, cy, h1, h2⟩ := hrow 0 x hx
      have h9 := hv.cell 0 (List.getElem?_eq_some_iff.1 hx).1
      rw [hc, h1] at h9
      simp only [Option.some.injEq, Value.slice.injEq, true_and] at h9
      obtain ⟨rfl, rfl⟩ := h9
      exact ⟨_, _, by rw [hcell]; rfl, h2⟩
  have e2 : d.2.length + 1 = (d.2 ++ [x]).length := by simp
  rw [e2]
  exact LR.mk rG rC
end
theorem made_zeroD (n : Nat) : (madeCells #[Value.int .i64 0] n).toList = (List.replicate n (0 : Int)).map (Value.int .i64) := by
  have h := part_made (List.replicate n 0) n (by simp)
  rw [h]
  congr 1
  simp [part]
theorem OwnI.madeD (w : World) {lo : Nat} (n : Nat) (hn : n ≤ 1048576) (hlo : lo ≤ w.heap.size) : OwnI 3 (w.alloc (.cells (madeCells #[.int .i64 0] n) 3)) lo (some ⟨w.heap.size, 0, none⟩) n n (List.replicate n 0) := by
  have h := World.ownsRow_lit (e := 3) (size := 1) (base := lo) w (madeCells #[.int .i64 0] n) n hlo (by unfold maxLen; omega) (by simp [madeCells])
  rw [made_zeroD] at h
  exact h
section
variable {w wr : World} {g g5 : Nat} {A : Option Addr} {c : Nat} {A' : Option Addr} {c' : Nat} {d : MD} {fp fp' : List Nat}
/-- One number: where it lies, and what a store there leaves, in every later world. -/
theorem AmSt.spotG (h : AmSt w wr g g5 A c A' c' d fp fp') (hg : g < w.heap.size) (k : Nat) (x : List Int) (hx : d.1[k]? = some x) (j : Nat) (hj : j < x.length) :
    ∃ gG gx cx, A = some ⟨gG, 0, none⟩ ∧ wr.cell? ⟨gG, k, none⟩ = some (.slice (some ⟨gx, 0, none⟩) x.length cx) ∧ x.length ≤ cx ∧ cx ≤ 9223372036854775807 ∧ w.heap.size < gx ∧ gx ≠ g5 ∧ gx ≠ gG ∧ gG ≠ g ∧ gG < wr.heap.size ∧
      ∀ wz, TchF [g] wr wz → wz.cell? ⟨gx, j, none⟩ = some (.int .i64 (x.getD j 0)) ∧ wz.frozen? ⟨gx, j, none⟩ = false ∧ ∀ z, AmSt w (wz.setCell ⟨gx, j, none⟩ (.int .i64 z)) g g5 A c A' c' (d.1.set k (x.set j z), d.2) fp fp' := by
  obtain ⟨gG, gx, cx, e, s1, s2, s3, s4, s5, s6, s7⟩ := h.og.spot k x hx j hj
  obtain ⟨gA, Ay, cy, f, ea, hm, hcy, _, hly, hf⟩ := h.og.rowAt k x hx
  have ea := e.symm.trans ea
  simp only [Option.some.injEq, Addr.mk.injEq, and_true] at ea
  subst ea
  rw [s1] at hcy
  simp only [Option.some.injEq, Value.slice.injEq, true_and] at hcy
  have hgx : gx ≠ gG := (hf gx (by rw [hly.own.2, ← hcy.1]; simp)).2
  have hgG : gG ≠ g := by have := (h.bg gG hm).1; omega
  have hlt : gG < wr.heap.size := h.og.lt gG hm
  refine ⟨gG, gx, cx, e, s1, s2, s3, (h.bg gx s4).1, (h.bg gx s4).2, hgx, hgG, hlt, fun wz hz => ?_⟩
  have h2 := h.curs hg hz
  obtain ⟨gG', gx', cx', e', t1, _, _, t4, t5, t6, t7⟩ := h2.og.spot k x hx j hj
  subst e
  simp only [Option.some.injEq, Addr.mk.injEq, and_true] at e'
  subst e'
  have e3 : wz.cell? ⟨gG, k, none⟩ = wr.cell? ⟨gG, k, none⟩ := World.cell?_of_block (w := wr) (hz.block gG hlt (by simpa using hgG))
  rw [t1, s1] at e3
  simp only [Option.some.injEq, Value.slice.injEq, Addr.mk.injEq, true_and, and_true] at e3
  obtain ⟨rfl, rfl⟩ := e3
  exact ⟨t5, t6, fun z => h2.setG (t7 z) t4⟩
/-- One number: where it lies, and what a store there leaves, in every later world. -/
theorem AmSt.spotC (h : AmSt w wr g g5 A c A' c' d fp fp') (hg : g < w.heap.size) (k : Nat) (x : List Int) (hx : d.2[k]? = some x) (j : Nat) (hj : j < x.length) :
    ∃ gG gx cx, A' = some ⟨gG, 0, none⟩ ∧ wr.cell? ⟨gG, k, none⟩ = some (.slice (some ⟨gx, 0, none⟩) x.length cx) ∧ x.length ≤ cx ∧ cx ≤ 9223372036854775807 ∧ w.heap.size < gx ∧ gx ≠ g5 ∧ gx ≠ gG ∧ gG ≠ g ∧ gG < wr.heap.size ∧
      ∀ wz, TchF [g] wr wz → wz.cell? ⟨gx, j, none⟩ = some (.int .i64 (x.getD j 0)) ∧ wz.frozen? ⟨gx, j, none⟩ = false ∧ ∀ z, AmSt w (wz.setCell ⟨gx, j, none⟩ (.int .i64 z)) g g5 A c A' c' (d.1, d.2.set k (x.set j z)) fp fp' := by
  obtain ⟨gG, gx, cx, e, s1, s2, s3, s4, s5, s6, s7⟩ := h.oc.spot k x hx j hj
  obtain ⟨gA, Ay, cy, f, ea, hm, hcy, _, hly, hf⟩ := h.oc.rowAt k x hx
  have ea := e.symm.trans ea
  simp only [Option.some.injEq, Addr.mk.injEq, and_true] at ea
  subst ea
  rw [s1] at hcy
  simp only [Option.some.injEq, Value.slice.injEq, true_and] at hcy
  have hgx : gx ≠ gG := (hf gx (by rw [hly.own.2, ← hcy.1]; simp)).2
  have hgG : gG ≠ g := by have := (h.bc gG hm).1; omega
  have hlt : gG < wr.heap.size := h.oc.lt gG hm
  refine ⟨gG, gx, cx, e, s1, s2, s3, (h.bc gx s4).1, (h.bc gx s4).2, hgx, hgG, hlt, fun wz hz => ?_⟩
  have h2 := h.curs hg hz
  obtain ⟨gG', gx', cx', e', t1, _, _, t4, t5, t6, t7⟩ := h2.oc.spot k x hx j hj
  subst e
  simp only [Option.some.injEq, Addr.mk.injEq, and_true] at e'
  subst e'
  have e3 : wz.cell? ⟨gG, k, none⟩ = wr.cell? ⟨gG, k, none⟩ := World.cell?_of_block (w := wr) (hz.block gG hlt (by simpa using hgG))
  rw [t1, s1] at e3
  simp only [Option.some.injEq, Value.slice.injEq, Addr.mk.injEq, true_and, and_true] at e3
  obtain ⟨rfl, rfl⟩ := e3
  exact ⟨t5, t6, fun z => h2.setC (t7 z) t4⟩
/-- A new row in the place of one of the second list. -/
theorem AmSt.fresh {wm : World} {k m gC lo : Nat} {zs : List Int} (h : AmSt w wr g g5 A c (some ⟨gC, 0, none⟩) c' d fp fp') (hg : g < w.heap.size) (hk : k < d.2.length) (hx : Ext wr wm) (ho : OwnI 3 wm lo (some ⟨wr.heap.size, 0, none⟩) m m zs) (hlt : wr.heap.size < wm.heap.size) :
    ∃ fp2, AmSt w (wm.setCell ⟨gC, k, none⟩ (.slice (some ⟨wr.heap.size, 0, none⟩) m m)) g g5 A c (some ⟨gC, 0, none⟩) c' (d.1, d.2.set k zs) fp fp2 := by
  have h2 := h.ext hg hx
  obtain ⟨gx, cs, f, hat⟩ := h2.oc.at_ k _ (List.getElem?_eq_getElem hk)
  have ea := hat.addr
  simp only [Option.some.injEq, Addr.mk.injEq, and_true] at ea
  subst ea
  have hz := own_row ho
  have hgl := h.oc.lt
  obtain ⟨fp2, h3, h4⟩ := hat.store wm _ zs _ hz (TchF.refl _ _) (fun i hi => by
    simp at hi
    subst hi
    exact .inr (fun hm => by have := hgl _ hm; omega))
  rw [one_cells wm gC k _ kdL.size rfl] at h3
  have hm := hat.mem
  have hmm := h.bc gC hm
  have hnew : ∀ i ∈ fp2, i ∈ fp' ∨ i = wr.heap.size := fun i hi => by
    rcases h4 i hi with e | e
    · exact .inl e
    · simp at e; exact .inr e
  have s1 := h.b5.lt
  have s2 := h.tch.size
  have s3 := h.h5
  refine ⟨fp2, ⟨h2.b0.far (by simp; omega) _, ?_, h2.og.keep fun i hi => Below.heap_setCell _ _ _ _ (fun (e : i = gC) => h.dj i hi (e ▸ hm)), h3, h.bg, fun i hi => ?_, fun i hi hm2 => ?_, h.h5, h2.tch.step (TchF.setCell wm ⟨gC, k, none⟩ _ (fp := [gC]) (by simp)) (fun i hi => .inr (by simp at hi; omega))⟩⟩
  · have := h2.b5.far (p := ⟨gC, k, none⟩) (Ne.symm hmm.2) (.slice (some ⟨wr.heap.size, 0, none⟩) m m)
    simpa using this
  · rcases hnew i hi with e | e
    · exact h.bc i e
    · omega
  · rcases hnew i hm2 with e | e
    · exact h.dj i hi e
    · have := h.og.lt i hi; omega
/-- No grades any more. -/
theorem AmSt.noG (h : AmSt w wr g g5 A c A' c' d fp fp') : AmSt w (wr.setCell ⟨g5, 0, none⟩ (.slice none 0 0)) g g5 none 0 A' c' ([], d.2) [] fp' where
  b0 := h.b0.far (by have := h.h5; simp; omega) _
  b5 := by have := h.b5.set 0 (.slice none 0 0); simpa using this
  og := LO.none_
  oc := h.oc.keep fun i hi => Below.heap_setCell _ _ _ _ (h.bc i hi).2
  bg := by simp
  bc := h.bc
  dj := by simp
  h5 := h.h5
  tch := h.tch.step (TchF.setCell wr ⟨g5, 0, none⟩ _ (fp := [g5]) (by simp)) fun i hi => .inr (by have := h.h5; simp at hi; omega)
end
end Go.Proofs.Ytifdpmpconjhmaa
