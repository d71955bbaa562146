/- An element of a list of one's own replaced; single items. -/
import Derived.Test.YtiohjcadmahkgaaGreatZL
namespace Go.Proofs.YtiohjcadmahkgaaGreat
open Go.RowKit Go.Sort
set_option linter.unusedVariables false

section
variable {α : Type} {K : Kd α} {e : TypeId} {w : World} {c : Nat} {A : Option Addr} {xs : List α} {fp : List Nat}
theorem nodup_swap {fps : List (List Nat)} {k : Nat} {f f' : List Nat} (hk : fps[k]? = some f) (h : fps.flatten.Nodup) (h' : f'.Nodup) (hd : ∀ i ∈ f', i ∉ fps.flatten) : (fps.set k f').flatten.Nodup := by
  obtain ⟨hlt, rfl⟩ := List.getElem?_eq_some_iff.1 hk
  have e1 : fps = fps.take k ++ fps[k] :: fps.drop (k + 1) := by rw [← List.drop_eq_getElem_cons hlt, List.take_append_drop]
  rw [List.set_eq_take_append_cons_drop, if_pos hlt]
  rw [e1] at h hd
  simp only [List.flatten_append, List.flatten_cons, List.nodup_append, List.mem_append, not_or] at h hd ⊢
  obtain ⟨h1, ⟨h2, h3, h4⟩, h5⟩ := h
  refine ⟨h1, ⟨h', h3, fun a ha b hb e => (hd a ha).2.2 (e ▸ hb)⟩, fun a ha b hb => ?_⟩
  rcases hb with hb | hb
  · rintro rfl
    exact (hd a hb).1 ha
  · exact h5 a ha b (.inr hb)
/-- An element of three cells replaced by another, with memory of its own. -/
theorem LO.swap3 (h3 : K.size = 3) (h : LO K e w A c xs fp) (k : Nat) (x : α) (hx : xs[k]? = some x) : ∃ g, A = some ⟨g, 0, none⟩ ∧ g ∈ fp ∧ g < w.heap.size ∧ (∀ j, w.frozen? ⟨g, j, none⟩ = false) ∧ (∃ u0 u1 u2, w.cell? ⟨g, k * 3, none⟩ = some u0 ∧ w.cell? ⟨g, k * 3 + 1, none⟩ = some u1 ∧ w.cell? ⟨g, k * 3 + 2, none⟩ = some u2) ∧
    ∀ (w' : World) (u0 u1 u2 : Value) (x' : α) (f' : List Nat), K.own w' [u0, u1, u2] x' f' → (∀ i ∈ fp, w'.heap[i]? = w.heap[i]?) → (∀ i ∈ f', i ∉ fp) →
      ∃ fp2, LO K e (((w'.setCell ⟨g, k * 3, none⟩ u0).setCell ⟨g, k * 3 + 1, none⟩ u1).setCell ⟨g, k * 3 + 2, none⟩ u2) A c (xs.set k x') fp2 ∧ (∀ i ∈ fp2, i ∈ fp ∨ i ∈ f') := by
  obtain ⟨css, fps, hr, hl1, hl2, hown, hfp, hnd⟩ := id h
  have hk : k < xs.length := (List.getElem?_eq_some_iff.1 hx).1
  have hck : css[k]? = some css[k] := List.getElem?_eq_getElem (by omega)
  have hfk : fps[k]? = some fps[k] := List.getElem?_eq_getElem (by omega)
  have hall : ∀ cs ∈ css, cs.length = 3 := by
    intro cs hcs
    obtain ⟨i, hi, rfl⟩ := List.getElem_of_mem hcs
    rw [← h3]
    exact K.rd_len (K.own_rd (hown i _ _ _ (List.getElem?_eq_getElem hi) (List.getElem?_eq_getElem (by omega)) (List.getElem?_eq_getElem (by omega))))
  rw [h3] at hr
  have hA : ∃ g, A = some ⟨g, 0, none⟩ := by
    rcases hr.2 with ⟨_, h2⟩ | ⟨g, cap, cur, h1, _⟩
    · omega
    · simp only [Value.slice.injEq] at h1; exact ⟨g, h1.1⟩
  obtain ⟨g, rfl⟩ := hA
  have hfp' : fp = g :: fps.flatten := by rw [hfp]; rfl
  have hnd2 : g ∉ fps.flatten ∧ fps.flatten.Nodup := by rw [hfp'] at hnd; exact List.nodup_cons.1 hnd
  have hg : g < w.heap.size := h.lt g (by rw [hfp']; simp)
  have h3k := hall css[k] (List.getElem_mem (by omega))
  have hcell : ∀ j, j < 3 → ∃ u, w.cell? ⟨g, k * 3 + j, none⟩ = some u := by
    intro j hj
    refine ⟨css[k][j], ?_⟩
    rw [World.ownsRow.cellAt hr (k * 3 + j) (by omega), flatten_at hall k j _ hck hj, List.getElem?_eq_getElem (by omega)]
  refine ⟨g, rfl, by rw [hfp']; simp, hg, fun j => World.ownsRow.frozenAt hr j, ?_, ?_⟩
  · obtain ⟨u0, h0⟩ := hcell 0 (by omega)
    obtain ⟨u1, h1⟩ := hcell 1 (by omega)
    obtain ⟨u2, h2⟩ := hcell 2 (by omega)
    exact ⟨u0, u1, u2, h0, h1, h2⟩
  · intro w' u0 u1 u2 x' f' ho ht hd
    have hr' := ownsRow_keep (w' := w') hr (fun p hp => by injection hp with hp; subst hp; exact ht g (by rw [hfp']; simp))
    have s1 := (World.ownsRow.stored hr' (k * 3) u0).1
    have s2 := (World.ownsRow.stored s1 (k * 3 + 1) u1).1
    have s3 := (World.ownsRow.stored s2 (k * 3 + 2) u2).1
    have e0 := flat_set1 hall k 0 _ hck (by omega) u0
    rw [Nat.add_zero] at e0
    have hall1 : ∀ cs ∈ css.set k (css[k].set 0 u0), cs.length = 3 := fun cs hcs => by
      rcases List.mem_or_eq_of_mem_set hcs with hm | rfl
      · exact hall cs hm
      · simpa using h3k
    have e1 := flat_set1 hall1 k 1 (css[k].set 0 u0) (by rw [List.getElem?_set, if_pos rfl, if_pos (by omega)]) (by omega) u1
    have hall2 : ∀ cs ∈ (css.set k (css[k].set 0 u0)).set k ((css[k].set 0 u0).set 1 u1), cs.length = 3 := fun cs hcs => by
      rcases List.mem_or_eq_of_mem_set hcs with hm | rfl
      · exact hall1 cs hm
      · simpa using h3k
    have e2 := flat_set1 hall2 k 2 ((css[k].set 0 u0).set 1 u1) (by rw [List.getElem?_set, if_pos rfl, if_pos (by simp; omega)]) (by omega) u2
    rw [e0, e1, e2] at s3
    have e3 : ((css[k].set 0 u0).set 1 u1).set 2 u2 = [u0, u1, u2] := by
      generalize css[k] = cs at h3k
      match cs, h3k with
      | [a, b, c], _ => rfl
    rw [List.set_set, List.set_set, e3] at s3
    have hblk : ∀ i, i ≠ g → (((w'.setCell ⟨g, k * 3, none⟩ u0).setCell ⟨g, k * 3 + 1, none⟩ u1).setCell ⟨g, k * 3 + 2, none⟩ u2).heap[i]? = w'.heap[i]? := fun i hi => by
      rw [Below.heap_setCell _ _ _ _ hi, Below.heap_setCell _ _ _ _ hi, Below.heap_setCell _ _ _ _ hi]
    have hgf : g ∉ f' := fun hm => hd g hm (by rw [hfp']; simp)
    have hsub : ∀ i ∈ (fps.set k f').flatten, i ∈ fps.flatten ∨ i ∈ f' := by
      intro i hi
      obtain ⟨l, hl, hil⟩ := List.mem_flatten.1 hi
      rcases List.mem_or_eq_of_mem_set hl with hm | rfl
      · exact .inl (List.mem_flatten.2 ⟨l, hm, hil⟩)
      · exact .inr hil
    refine ⟨g :: (fps.set k f').flatten, ⟨css.set k [u0, u1, u2], fps.set k f', by rw [h3, List.length_set]; exact s3, by simpa using hl1, by simpa using hl2, ?_, rfl, ?_⟩, ?_⟩
    · intro i cs y f h1 h2 h9
      rw [List.getElem?_set] at h1 h2 h9
      by_cases hki : k = i
      · subst hki
        rw [if_pos rfl, if_pos (by omega)] at h1 h2 h9
        injection h1 with h1
        injection h2 with h2
        injection h9 with h9
        subst h1 h2 h9
        exact K.own_keep ho (fun i hi => hblk i (fun e => hgf (e ▸ hi)))
      · rw [if_neg hki] at h1 h2 h9
        refine K.own_keep (hown i cs y f h1 h2 h9) (fun q hq => ?_)
        have hqf : q ∈ fps.flatten := List.mem_flatten.2 ⟨_, List.mem_of_getElem? h9, hq⟩
        rw [hblk q (fun e => hnd2.1 (e ▸ hqf))]
        exact ht q (by rw [hfp']; simp [hqf])
    · refine List.nodup_cons.2 ⟨fun hm => ?_, nodup_swap hfk hnd2.2 (K.own_nodup ho) (fun i hi hm => hd i hi (by rw [hfp']; simp [hm]))⟩
      rcases hsub g hm with h | h
      · exact hnd2.1 h
      · exact hgf h
    · intro i hi
      rcases List.mem_cons.1 hi with rfl | hi
      · exact .inl (by rw [hfp']; simp)
      · rcases hsub i hi with h | h
        · exact .inl (by rw [hfp']; simp [h])
        · exact .inr h
end
theorem OwnI.one (w : World) (z : Int) {lo : Nat} (h : lo ≤ w.heap.size) : OwnI 3 (w.alloc (.cells #[.int .i64 z] 3)) lo (some ⟨w.heap.size, 0, none⟩) 1 1 [z] :=
  World.ownsRow_lit (e := 3) (size := 1) (base := lo) w #[.int .i64 z] 1 h (by unfold maxLen; omega) (by simp)
theorem LO.oneS (w : World) (nm : List UInt8) (hn : nm.length ≤ 1048576) : LO kdS 9 (w.alloc (.cells #[.string (bs nm)] 9)) (some ⟨w.heap.size, 0, none⟩) 1 [nm] [w.heap.size] := by
  have h := World.ownsRow_lit (e := 9) (size := 1) (base := w.heap.size) w #[.string (bs nm)] 1 (Nat.le_refl _) (by unfold maxLen; omega) (by simp)
  exact Own.loS (xs := [nm]) h (by intro x hx; simp at hx; subst hx; omega)
end Go.Proofs.YtiohjcadmahkgaaGreat
