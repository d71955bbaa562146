/- Two elements of a list of one's own exchanged. -/
import Derived.Test.YtiohjcadmahkgaaGreatZM
import Derived.Test.YtiohjcadmahkgaaGreatPR
import Derived.Sort.Lot0
namespace Go.Proofs.YtiohjcadmahkgaaGreat
open Go.RowKit Go.Sort
set_option linter.unusedVariables false

section
variable {α : Type} {K : Kd α} {e : TypeId} {w : World} {c : Nat} {A : Option Addr} {xs : List α} {fp : List Nat}
theorem row_set3 {g n : Nat} {css : List (List Value)} (hr : w.ownsRow 0 e 3 (.slice (some ⟨g, 0, none⟩) n c) n css.flatten) (hall : ∀ cs ∈ css, cs.length = 3) (k : Nat) (hk : k < css.length) (u0 u1 u2 : Value) :
    (((w.setCell ⟨g, k * 3, none⟩ u0).setCell ⟨g, k * 3 + 1, none⟩ u1).setCell ⟨g, k * 3 + 2, none⟩ u2).ownsRow 0 e 3 (.slice (some ⟨g, 0, none⟩) n c) n (css.set k [u0, u1, u2]).flatten := by
  have hck : css[k]? = some css[k] := List.getElem?_eq_getElem hk
  have h3k := hall css[k] (List.getElem_mem hk)
  have s1 := (World.ownsRow.stored hr (k * 3) u0).1
  have s2 := (World.ownsRow.stored s1 (k * 3 + 1) u1).1
  have s3 := (World.ownsRow.stored s2 (k * 3 + 2) u2).1
  have e0 := flat_set1 hall k 0 _ hck (by omega) u0
  rw [Nat.add_zero] at e0
  have hall1 : ∀ cs ∈ css.set k (css[k].set 0 u0), cs.length = 3 := fun cs hcs => by
    rcases List.mem_or_eq_of_mem_set hcs with hm | rfl
    · exact hall cs hm
    · simpa using h3k
  have e1 := flat_set1 hall1 k 1 (css[k].set 0 u0) (by rw [List.getElem?_set, if_pos rfl, if_pos hk]) (by omega) u1
  have hall2 : ∀ cs ∈ (css.set k (css[k].set 0 u0)).set k ((css[k].set 0 u0).set 1 u1), cs.length = 3 := fun cs hcs => by
    rcases List.mem_or_eq_of_mem_set hcs with hm | rfl
    · exact hall1 cs hm
    · simpa using h3k
  have e2 := flat_set1 hall2 k 2 ((css[k].set 0 u0).set 1 u1) (by rw [List.getElem?_set, if_pos rfl, if_pos (by simpa using hk)]) (by omega) u2
  rw [e0, e1, e2] at s3
  have e3 : ((css[k].set 0 u0).set 1 u1).set 2 u2 = [u0, u1, u2] := by
    generalize css[k] = cs at h3k
    match cs, h3k with
    | [a, b, c], _ => rfl
  rwa [List.set_set, List.set_set, e3] at s3
theorem len3 {cs : List Value} (h : cs.length = 3) : ∃ a b c, cs = [a, b, c] := by
  match cs, h with
  | [a, b, c], _ => exact ⟨a, b, c, rfl⟩
theorem LO.swap_aux {w9 : World} {g i j : Nat} {x y : α} {css : List (List Value)} {fps : List (List Nat)} {ca cb : List Value} (h3 : K.size = 3) (hij : i ≠ j) (hl1 : css.length = xs.length) (hl2 : fps.length = xs.length)
    (hown : ∀ (k : Nat) (cs : List Value) (x : α) (f : List Nat), css[k]? = some cs → xs[k]? = some x → fps[k]? = some f → K.own w cs x f) (hnd : (g :: fps.flatten).Nodup) (hi : i < xs.length) (hj : j < xs.length) (oi : K.own w ca x (fps[i]'(by omega))) (oj : K.own w cb y (fps[j]'(by omega)))
    (s2 : w9.ownsRow 0 e 3 (.slice (some ⟨g, 0, none⟩) xs.length c) xs.length ((css.set i cb).set j ca).flatten) (hblk : ∀ q, q ≠ g → w9.heap[q]? = w.heap[q]?) :
    ∃ fp2, LO K e w9 (some ⟨g, 0, none⟩) c ((xs.set i y).set j x) fp2 ∧ ∀ k ∈ fp2, k ∈ g :: fps.flatten := by
  have hnd2 := List.nodup_cons.1 hnd
  have fi : fps[i]? = some (fps[i]'(by omega)) := List.getElem?_eq_getElem (by omega)
  have fj : fps[j]? = some (fps[j]'(by omega)) := List.getElem?_eq_getElem (by omega)
  have hpf : ((fps.set i (fps[j]'(by omega))).set j (fps[i]'(by omega))).Perm fps := List.set_set_perm (by omega) (by omega)
  have hpp := hpf.flatten
  generalize fps[i]'(by omega) = f1 at *
  generalize fps[j]'(by omega) = f2 at *
  have hq : ∀ (f0 : List Nat) (q0 : Nat), fps[q0]? = some f0 → ∀ r ∈ f0, r ≠ g := fun f0 q0 hf0 r hr e => hnd2.1 (e ▸ List.mem_flatten.2 ⟨_, List.mem_of_getElem? hf0, hr⟩)
  refine ⟨g :: ((fps.set i f2).set j f1).flatten, ⟨(css.set i cb).set j ca, (fps.set i f2).set j f1, by rw [h3, List.length_set, List.length_set]; exact s2, by simpa using hl1, by simpa using hl2, ?_, rfl, ?_⟩, ?_⟩
  · intro q cs z f h1 h2 h9
    rw [List.getElem?_set] at h1 h2 h9
    by_cases hjq : j = q
    · subst hjq
      rw [if_pos rfl, if_pos (by rw [List.length_set]; omega)] at h1 h2 h9
      obtain rfl := Option.some.inj h1
      obtain rfl := Option.some.inj h2
      obtain rfl := Option.some.inj h9
      exact K.own_keep oi (fun r hr => hblk r (hq _ i fi r hr))
    · rw [if_neg hjq, List.getElem?_set] at h1 h2 h9
      by_cases hiq : i = q
      · subst hiq
        rw [if_pos rfl, if_pos (by omega)] at h1 h2 h9
        obtain rfl := Option.some.inj h1
        obtain rfl := Option.some.inj h2
        obtain rfl := Option.some.inj h9
        exact K.own_keep oj (fun r hr => hblk r (hq _ j fj r hr))
      · rw [if_neg hiq] at h1 h2 h9
        exact K.own_keep (hown q cs z f h1 h2 h9) (fun r hr => hblk r (hq _ q h9 r hr))
  · exact List.nodup_cons.2 ⟨fun hm => hnd2.1 (hpp.mem_iff.1 hm), hpp.nodup_iff.2 hnd2.2⟩
  · intro q hq
    rcases List.mem_cons.1 hq with rfl | hq
    · simp
    · exact List.mem_cons_of_mem _ (hpp.mem_iff.1 hq)
set_option maxHeartbeats 400000 in
/-- Two elements of three cells exchanged. -/
theorem LO.swapE (h3 : K.size = 3) (h : LO K e w A c xs fp) (i j : Nat) (x y : α) (hij : i ≠ j) (hx : xs[i]? = some x) (hy : xs[j]? = some y) :
    ∃ g a0 a1 a2 b0 b1 b2 fx fy, A = some ⟨g, 0, none⟩ ∧ g ∈ fp ∧ g < w.heap.size ∧ (∀ k, w.frozen? ⟨g, k, none⟩ = false) ∧ K.own w [a0, a1, a2] x fx ∧ K.own w [b0, b1, b2] y fy ∧
      w.cell? ⟨g, i * 3, none⟩ = some a0 ∧ w.cell? ⟨g, i * 3 + 1, none⟩ = some a1 ∧ w.cell? ⟨g, i * 3 + 2, none⟩ = some a2 ∧ w.cell? ⟨g, j * 3, none⟩ = some b0 ∧ w.cell? ⟨g, j * 3 + 1, none⟩ = some b1 ∧ w.cell? ⟨g, j * 3 + 2, none⟩ = some b2 ∧
      ∀ w' : World, (∀ q ∈ fp, w'.heap[q]? = w.heap[q]?) → ∃ fp2, LO K e ((((((w'.setCell ⟨g, i * 3, none⟩ b0).setCell ⟨g, i * 3 + 1, none⟩ b1).setCell ⟨g, i * 3 + 2, none⟩ b2).setCell ⟨g, j * 3, none⟩ a0).setCell ⟨g, j * 3 + 1, none⟩ a1).setCell ⟨g, j * 3 + 2, none⟩ a2) A c ((xs.set i y).set j x) fp2 ∧ ∀ k ∈ fp2, k ∈ fp := by
  obtain ⟨css, fps, hr, hl1, hl2, hown, hfp, hnd⟩ := id h
  have hi : i < xs.length := (List.getElem?_eq_some_iff.1 hx).1
  have hj : j < xs.length := (List.getElem?_eq_some_iff.1 hy).1
  have hall : ∀ cs ∈ css, cs.length = 3 := by
    intro cs hcs
    obtain ⟨i, hi, rfl⟩ := List.getElem_of_mem hcs
    rw [← h3]
    exact K.rd_len (K.own_rd (hown i _ _ _ (List.getElem?_eq_getElem hi) (List.getElem?_eq_getElem (by omega)) (List.getElem?_eq_getElem (by omega))))
  rw [h3] at hr
  have hA : ∃ g, A = some ⟨g, 0, none⟩ := by
    rcases hr.2 with ⟨_, h2⟩ | ⟨g, cap, cur, h1, _⟩
    · omega
    · simp only [Value.slice.injEq] at h1; exact ⟨g, h1.1⟩
  obtain ⟨g, rfl⟩ := hA
  have hfp' : fp = g :: fps.flatten := by rw [hfp]; rfl
  have hnd2 : g ∉ fps.flatten ∧ fps.flatten.Nodup := by rw [hfp'] at hnd; exact List.nodup_cons.1 hnd
  have hg : g < w.heap.size := h.lt g (by rw [hfp']; simp)
  have ci : css[i]? = some css[i] := List.getElem?_eq_getElem (by omega)
  have cj : css[j]? = some css[j] := List.getElem?_eq_getElem (by omega)
  have fi : fps[i]? = some fps[i] := List.getElem?_eq_getElem (by omega)
  have fj : fps[j]? = some fps[j] := List.getElem?_eq_getElem (by omega)
  obtain ⟨a0, a1, a2, ea⟩ := len3 (hall css[i] (List.getElem_mem (by omega)))
  obtain ⟨b0, b1, b2, eb⟩ := len3 (hall css[j] (List.getElem_mem (by omega)))
  have oi := hown i _ x _ ci hx fi
  have oj := hown j _ y _ cj hy fj
  have hcell : ∀ (k : Nat) (cs : List Value) (q : Nat), css[k]? = some cs → k < xs.length → q < 3 → w.cell? ⟨g, k * 3 + q, none⟩ = cs[q]? := by
    intro k cs q hk hkx hq
    rw [World.ownsRow.cellAt hr (k * 3 + q) (by omega), flatten_at hall k q _ hk hq]
  have ha := fun q hq => hcell i _ q ci hi hq
  have hb := fun q hq => hcell j _ q cj hj hq
  rw [ea] at ha oi
  rw [eb] at hb oj
  refine ⟨g, a0, a1, a2, b0, b1, b2, fps[i], fps[j], rfl, by rw [hfp']; simp, hg, fun q => World.ownsRow.frozenAt hr q, oi, oj, ha 0 (by omega), ha 1 (by omega), ha 2 (by omega), hb 0 (by omega), hb 1 (by omega), hb 2 (by omega), fun w' hk => ?_⟩
  have hr' := ownsRow_keep (w' := w') hr (fun p hp => by injection hp with hp; subst hp; exact hk g (by rw [hfp']; simp))
  have hsub : ∀ (f0 : List Nat) (q0 : Nat), fps[q0]? = some f0 → ∀ r ∈ f0, r ∈ fp := fun f0 q0 hf0 r hr => by rw [hfp']; exact List.mem_cons_of_mem _ (List.mem_flatten.2 ⟨_, List.mem_of_getElem? hf0, hr⟩)
  have oi' := K.own_keep oi (fun r hr => hk r (hsub _ i fi r hr))
  have oj' := K.own_keep oj (fun r hr => hk r (hsub _ j fj r hr))
  have s1 := row_set3 hr' hall i (by omega) b0 b1 b2
  have hall1 : ∀ cs ∈ css.set i [b0, b1, b2], cs.length = 3 := fun cs hcs => by
    rcases List.mem_or_eq_of_mem_set hcs with hm | rfl
    · exact hall cs hm
    · rfl
  have s2 := row_set3 s1 hall1 j (by rw [List.length_set]; omega) a0 a1 a2
  have hblk : ∀ q, q ≠ g → ((((((w'.setCell ⟨g, i * 3, none⟩ b0).setCell ⟨g, i * 3 + 1, none⟩ b1).setCell ⟨g, i * 3 + 2, none⟩ b2).setCell ⟨g, j * 3, none⟩ a0).setCell ⟨g, j * 3 + 1, none⟩ a1).setCell ⟨g, j * 3 + 2, none⟩ a2).heap[q]? = w'.heap[q]? := fun q hq => by
    rw [Below.heap_setCell _ _ _ _ hq, Below.heap_setCell _ _ _ _ hq, Below.heap_setCell _ _ _ _ hq, Below.heap_setCell _ _ _ _ hq, Below.heap_setCell _ _ _ _ hq, Below.heap_setCell _ _ _ _ hq]
  obtain ⟨fp2, k1, k2⟩ := LO.swap_aux h3 hij hl1 hl2 (fun q cs z f h1 h2 h9 => K.own_keep (hown q cs z f h1 h2 h9) (fun r hr => hk r (hsub f q h9 r hr))) (hfp' ▸ hnd) hi hj oi' oj' s2 hblk
  exact ⟨fp2, k1, fun q hq => by rw [hfp']; exact k2 q hq⟩
end
/-! ### Arrays of items -/
theorem getI {d : Array ItD} {i : Nat} (h : i < d.size) : d.toList[i]? = some d[i]! := by
  rw [Array.getElem?_toList, getElem!_pos d i h]
  simp [h]
theorem swpL {d : Array ItD} (i j : Nat) : (swp d i j).toList = (d.toList.set i d[j]!).set j d[i]! := by
  unfold swp
  rw [Array.toList_setIfInBounds, Array.toList_setIfInBounds]
theorem swp_mem {d : Array ItD} {i j : Nat} (hi : i < d.size) (hj : j < d.size) {x : ItD} (h : x ∈ (swp d i j).toList) : x ∈ d.toList := by
  rw [swpL] at h
  rcases List.mem_or_eq_of_mem_set h with h | rfl
  · rcases List.mem_or_eq_of_mem_set h with h | rfl
    · exact h
    · exact List.mem_of_getElem? (getI hj)
  · exact List.mem_of_getElem? (getI hi)
end Go.Proofs.YtiohjcadmahkgaaGreat
