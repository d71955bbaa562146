/- A mark set. -/
import Derived.Test.YtijgndfhfggipaaMK
namespace Go.Proofs.Ytijgndfhfggipaa
open Go.RowKit Go.Sort
set_option linter.unusedVariables false

theorem TchF.setCell {fp : List Nat} (w : World) (p : Addr) (v : Value) (hp : p.block ∈ fp) : TchF fp w (w.setCell p v) := by
  have h := Below.setCell (Below.refl 0 w) (Nat.zero_le p.block) v
  exact ⟨h.os, h.tape, h.output, h.size, fun k hk hr => Below.heap_setCell _ _ _ _ (fun e => hr (e ▸ hp))⟩

/-- One number in a list of lists of the call's own: where it lies, and what a store there leaves. -/
theorem LO.spot {w : World} {A : Option Addr} {c : Nat} {xs : List (List Int)} {fp : List Nat} (h : LO kdL 24 w A c xs fp) (k : Nat) (x : List Int) (hx : xs[k]? = some x) (j : Nat) (hj : j < x.length) :
    ∃ g gx cx, A = some ⟨g, 0, none⟩ ∧ w.cell? ⟨g, k, none⟩ = some (.slice (some ⟨gx, 0, none⟩) x.length cx) ∧ x.length ≤ cx ∧ cx ≤ 9223372036854775807 ∧ gx ∈ fp ∧ w.cell? ⟨gx, j, none⟩ = some (.int .i64 (x.getD j 0)) ∧ w.frozen? ⟨gx, j, none⟩ = false ∧
      ∀ z, LO kdL 24 (w.setCell ⟨gx, j, none⟩ (.int .i64 z)) A c (xs.set k (x.set j z)) fp := by
  obtain ⟨g, cs, f, hat⟩ := h.at_ k x hx
  obtain ⟨Ax, cx, hcs, hlo⟩ := hat.own
  have hcs : cs = [.slice Ax x.length cx] := hcs
  subst hcs
  obtain ⟨ho, hf⟩ := hlo.own
  obtain ⟨gx, rfl, _, _, hc⟩ := ho.pos (by omega)
  have hm : gx ∈ f := by rw [hf]; simp
  refine ⟨g, gx, cx, hat.addr, ?_, hc, ho.capm, (hat.sub gx hm).1, ho.cell j hj, ho.free j, fun z => ?_⟩
  · have := hat.cell 0 _ rfl
    simpa [kdL, kdList] using this
  · refine hat.inplace _ _ ?_ (TchF.setCell w _ _ hm)
    have h9 := own_row (ho.set j z)
    rw [hf]
    simpa using h9

theorem kM.open {w : World} {lo hi : Nat} {v : Value} {d : MD} (h : kM.fr w lo hi v d) : ∃ A c A' c' fp fp', v = .agg #[.slice A d.1.length c, .slice A' d.2.length c'] ∧ LO kdL 24 w A c d.1 fp ∧ LO kdL 24 w A' c' d.2 fp' ∧ (∀ i ∈ fp, lo ≤ i ∧ i < hi) ∧ (∀ i ∈ fp', lo ≤ i ∧ i < hi) ∧ (∀ i ∈ fp, i ∉ fp') := by
  obtain ⟨vs, fp0, rfl, ⟨vs1, vs2, fp, fp', rfl, ⟨A, c, rfl, h1⟩, ⟨A', c', rfl, h2⟩, rfl, hnd⟩, hf⟩ := h
  rw [List.nodup_append] at hnd
  exact ⟨A, c, A', c', fp, fp', rfl, h1, h2, fun i hi => hf i (List.mem_append.2 (.inl hi)), fun i hi => hf i (List.mem_append.2 (.inr hi)), fun i hi hi' => hnd.2.2 i hi i hi' rfl⟩

/-- One grade, or one component mark. -/
def setG (d : MD) (k j : Nat) (z : Int) : MD := (d.1.set k ((d.1.getD k []).set j z), d.2)
def setC (d : MD) (k j : Nat) (z : Int) : MD := (d.1, d.2.set k ((d.2.getD k []).set j z))
theorem wtL_set {α : Type} (K : Kd α) (xs : List α) (k : Nat) (x x' : α) (h : xs[k]? = some x) (hw : K.wt x' = K.wt x) : wtL K (xs.set k x') = wtL K xs := by
  induction xs generalizing k with
  | nil => simp at h
  | cons y t ih =>
    cases k with
    | zero => simp at h; subst h; show 1 + K.wt x' + wtL K t = 1 + K.wt y + wtL K t; omega
    | succ k => simp at h; have := ih k h; show 1 + K.wt y + wtL K (t.set k x') = 1 + K.wt y + wtL K t; omega
theorem wt_row (x : List Int) (j : Nat) (z : Int) : kdL.wt (x.set j z) = kdL.wt x := by
  have h1 : kdL.wt (x.set j z) = (x.set j z).length := wtL_int _
  have h2 : kdL.wt x = x.length := wtL_int _
  rw [h1, h2]; simp
theorem setG_ok {d : MD} {k j : Nat} {z : Int} {x : List Int} (hx : d.1[k]? = some x) (h : kM.ok d) : kM.ok (setG d k j z) := by
  have h1 := wtL_set kdL d.1 k x (x.set j z) hx (wt_row x j z)
  have hg : d.1.getD k [] = x := by rw [List.getD_eq_getElem?_getD, hx]; rfl
  show kdM.wt (setG d k j z) ≤ 1048576
  have h2 : kdM.wt (setG d k j z) = wtL kdL (d.1.set k (x.set j z)) + wtL kdL d.2 := by unfold setG; rw [hg]; rfl
  have h3 : kdM.wt d = wtL kdL d.1 + wtL kdL d.2 := rfl
  have h4 : kdM.wt d ≤ 1048576 := h
  omega
theorem setC_ok {d : MD} {k j : Nat} {z : Int} {x : List Int} (hx : d.2[k]? = some x) (h : kM.ok d) : kM.ok (setC d k j z) := by
  have h1 := wtL_set kdL d.2 k x (x.set j z) hx (wt_row x j z)
  have hg : d.2.getD k [] = x := by rw [List.getD_eq_getElem?_getD, hx]; rfl
  show kdM.wt (setC d k j z) ≤ 1048576
  have h2 : kdM.wt (setC d k j z) = wtL kdL d.1 + wtL kdL (d.2.set k (x.set j z)) := by unfold setC; rw [hg]; rfl
  have h3 : kdM.wt d = wtL kdL d.1 + wtL kdL d.2 := rfl
  have h4 : kdM.wt d ≤ 1048576 := h
  omega
theorem kM.ok_nil : kM.ok ([], []) := Nat.zero_le _
theorem kM.fr_nil (w : World) (lo hi : Nat) : kM.fr w lo hi noMarks ([], []) := kM.mk (A := none) (A' := none) (d := ([], [])) LO.none_ LO.none_ rfl rfl (by simp) (by simp) (by simp)

theorem kM.fr_far {w : World} {lo hi : Nat} {v : Value} {d : MD} (h : kM.fr w lo hi v d) (p : Addr) (hp : p.block < lo) (u : Value) : kM.fr (w.setCell p u) lo hi v d := by
  obtain ⟨vs, fp, rfl, h, hf⟩ := h
  refine ⟨vs, fp, rfl, kdM.own_keep h (fun i hi => Below.heap_setCell _ _ _ _ (fun (e : i = p.block) => ?_)), hf⟩
  have := hf i hi
  omega
theorem kM.fr_mono {w : World} {lo hi lo' hi' : Nat} {v : Value} {d : MD} (h : kM.fr w lo hi v d) (h1 : lo' ≤ lo) (h2 : hi ≤ hi') : kM.fr w lo' hi' v d := by
  obtain ⟨vs, fp, rfl, h, hf⟩ := h
  exact ⟨vs, fp, rfl, h, fun i hi => by have := hf i hi; omega⟩
def ifMarks (d : MD) : MD × Bool := if marksB d then (d, true) else (([], []), false)
def setGradeF (d : MD) (k j z : Int) : MD × Bool := if hasJudge d j && inB 0 ((d.1.length : Int) - 1) k then ifMarks (setG d k.toNat j.toNat z) else (([], []), false)
def setComponentF (d : MD) (k j z : Int) : MD × Bool := if hasJudge d j && inB 0 2 k then ifMarks (setC d k.toNat j.toNat z) else (([], []), false)

theorem kM.spot1 {w : World} {lo hi : Nat} {v : Value} {d : MD} (h : kM.fr w lo hi v d) (k : Nat) (x : List Int) (hx : d.1[k]? = some x) (j : Nat) (hj : j < x.length) :
    ∃ g gx cx c A' c', v = .agg #[.slice (some ⟨g, 0, none⟩) d.1.length c, .slice A' d.2.length c'] ∧ d.1.length ≤ c ∧ c ≤ 9223372036854775807 ∧ w.cell? ⟨g, k, none⟩ = some (.slice (some ⟨gx, 0, none⟩) x.length cx) ∧ x.length ≤ cx ∧ cx ≤ 9223372036854775807 ∧ (lo ≤ gx ∧ gx < hi) ∧ (lo ≤ g ∧ g < hi) ∧ w.cell? ⟨gx, j, none⟩ = some (.int .i64 (x.getD j 0)) ∧ w.frozen? ⟨gx, j, none⟩ = false ∧ gx < w.heap.size ∧ g < w.heap.size ∧
      ∀ z, kM.fr (w.setCell ⟨gx, j, none⟩ (.int .i64 z)) lo hi v (setG d k j z) := by
  obtain ⟨A, c, A', c', fp, fp', rfl, h1, h2, hf, hf', hd⟩ := kM.open h
  obtain ⟨g, gx, cx, rfl, s1, s2, s3, s4, s5, s6, s7⟩ := h1.spot k x hx j hj
  have hg : d.1.getD k [] = x := by rw [List.getD_eq_getElem?_getD, hx]; rfl
  have hgm : g ∈ fp := by obtain ⟨css, fps, _, _, _, _, e, _⟩ := h1; rw [e]; simp
  refine ⟨g, gx, cx, c, A', c', rfl, h1.cap.1, h1.cap.2, s1, s2, s3, hf gx s4, hf g hgm, s5, s6, h1.lt gx s4, h1.lt g hgm, fun z => ?_⟩
  refine kM.mk (d := setG d k j z) (by unfold setG; rw [hg]; exact s7 z) (h2.keep (fun i hi => Below.heap_setCell _ _ _ _ (fun (e : i = gx) => hd gx s4 (e ▸ hi)))) (by simp [setG]) rfl hf hf' hd
theorem kM.spot2 {w : World} {lo hi : Nat} {v : Value} {d : MD} (h : kM.fr w lo hi v d) (k : Nat) (x : List Int) (hx : d.2[k]? = some x) (j : Nat) (hj : j < x.length) :
    ∃ g gx cx c A' c', v = .agg #[.slice A' d.1.length c', .slice (some ⟨g, 0, none⟩) d.2.length c] ∧ d.2.length ≤ c ∧ c ≤ 9223372036854775807 ∧ w.cell? ⟨g, k, none⟩ = some (.slice (some ⟨gx, 0, none⟩) x.length cx) ∧ x.length ≤ cx ∧ cx ≤ 9223372036854775807 ∧ (lo ≤ gx ∧ gx < hi) ∧ (lo ≤ g ∧ g < hi) ∧ w.cell? ⟨gx, j, none⟩ = some (.int .i64 (x.getD j 0)) ∧ w.frozen? ⟨gx, j, none⟩ = false ∧ gx < w.heap.size ∧ g < w.heap.size ∧
      ∀ z, kM.fr (w.setCell ⟨gx, j, none⟩ (.int .i64 z)) lo hi v (setC d k j z) := by
  obtain ⟨A', c', A, c, fp', fp, rfl, h2, h1, hf', hf, hd⟩ := kM.open h
  obtain ⟨g, gx, cx, rfl, s1, s2, s3, s4, s5, s6, s7⟩ := h1.spot k x hx j hj
  have hg : d.2.getD k [] = x := by rw [List.getD_eq_getElem?_getD, hx]; rfl
  have hgm : g ∈ fp := by obtain ⟨css, fps, _, _, _, _, e, _⟩ := h1; rw [e]; simp
  refine ⟨g, gx, cx, c, A', c', rfl, h1.cap.1, h1.cap.2, s1, s2, s3, hf gx s4, hf g hgm, s5, s6, h1.lt gx s4, h1.lt g hgm, fun z => ?_⟩
  refine kM.mk (d := setC d k j z) (h2.keep (fun i hi => Below.heap_setCell _ _ _ _ (fun (e : i = gx) => hd gx (e ▸ hi) s4))) (by unfold setC; rw [hg]; exact s7 z) rfl (by simp [setC]) hf' hf hd
end Go.Proofs.Ytijgndfhfggipaa
