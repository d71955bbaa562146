/- Indices sorted by the bases of their elements. -/
import Derived.Test.YtcnpbaldnhfebaaGS
import Derived.Test.YtcnpbaldnhfebaaSN
import Derived.Test.YtcnpbaldnhfebaaGP
namespace Go.Proofs.Ytcnpbaldnhfebaa
open Go.RowKit Go.Sort
set_option linter.unusedVariables false

theorem putCells_enc {α : Type} [Inhabited α] (v : α → Int) (l : List α) (c : Array Value) : putCells (eI v) 0 l.toArray c = putCells (Value.int .i64) 0 (l.map v).toArray c := by
  unfold putCells
  apply Array.ext_getElem?
  intro k
  rw [Array.getElem?_mapIdx, Array.getElem?_mapIdx]
  cases c[k]? with
  | none => rfl
  | some x =>
    simp only [Option.map_some, List.size_toArray, List.length_map, Nat.zero_add, Nat.sub_zero, Nat.zero_le, true_and]
    by_cases h : k < l.length
    · rw [if_pos h, if_pos h, la_get, la_get, List.getD_eq_getElem?_getD, List.getD_eq_getElem?_getD, List.getElem?_map, List.getElem?_eq_getElem h]
      rfl
    · rw [if_neg h, if_neg h]
theorem putRow_enc {α : Type} [Inhabited α] (v : α → Int) (w : World) (g : Nat) (l : List α) : putRow (eI v) w g 0 l.toArray = putRow (Value.int .i64) w g 0 (l.map v).toArray := by
  unfold putRow
  congr 1
  funext c
  exact putCells_enc v l c
theorem own_holdsE {α : Type} [Inhabited α] {v : α → Int} {e : TypeId} {w : World} {lo n c g : Nat} {l : List α} (h : OwnI e w lo (some ⟨g, 0, none⟩) n c (l.map v)) : Holds (eI v) w g 0 l.toArray := by
  have h0 := Own.holds h
  intro j hj
  have h1 := h0 j (by simpa using hj)
  rw [la_get] at h1 ⊢
  have hj' : j < l.length := by simpa using hj
  rw [List.getD_eq_getElem?_getD, List.getElem?_map, List.getElem?_eq_getElem hj'] at h1
  rw [List.getD_eq_getElem?_getD, List.getElem?_eq_getElem hj']
  exact h1
theorem own_sorted {α : Type} [Inhabited α] {v : α → Int} {e : TypeId} {w w' : World} {lo n c g : Nat} {l m : List α} (h : OwnI e w lo (some ⟨g, 0, none⟩) n c (l.map v)) (hm : m.length = l.length) (hs : SW (eI v) w g 0 m.toArray w') :
    OwnI e w' lo (some ⟨g, 0, none⟩) n c (m.map v) ∧ w.grownBy w' (some g) := by
  obtain ⟨k, os, rfl⟩ := hs
  have hl := h.len
  subst hl
  obtain ⟨cur, hb, h1, h2, h3, h4⟩ := h.block
  unfold sortWorld
  rw [putRow_enc]
  exact ⟨ownsRow_sortedI (by simp [hm]) h1 hb h2 h3 h4, grownBy_sortedI _⟩
theorem one_eI {α : Type} (v : α → Int) : OneCell (eI v) := fun _ => rfl
/-- A world of the sort's is the caller's, but for the row. -/
theorem sortWorld_ext {α : Type} [Inhabited α] {v : α → Int} {u w : World} {g m : Nat} {l : Array α} {os : Array Obj} (hx : Ext u w) (hg : u.heap.size ≤ g) : Ext u (sortWorld (eI v) w g 0 m l os) := by
  have h2 : sortWorld (eI v) w g 0 m l os = sortWorld (eI v) w g 0 m l.toList.toArray os := rfl
  rw [h2]
  unfold sortWorld
  rw [putRow_enc]
  exact hx.grown (grownBy_sortedI _) hx.size (by simpa using hg)

set_option maxRecDepth 100000 in
set_option maxHeartbeats 2000000 in
theorem closNames (w : World) (gb Bd : Nat) (d : CoD) {Ac Al : Option Addr} {nc cc nl cl : Nat} {r b p f : Int} {T : TypeId} (hb : Blk w gb #[.slice Ac nc cc, .slice Al nl cl, .int .i64 r, .int .i64 b, .int .i64 p, .int .i64 f] T) (hn : d.1.length = nc) (hl : LR kdEl w Bd Ac cc d.1) (hd : CodeOk d) (i k : Nat) (hi : i < nc) (hk : k < nc) :
    Calls Try.prog 54 #[.int .i64 i, .int .i64 k, .pointer (some ⟨gb, 0, none⟩)] w fun e w' => e = .returned (.int .i64 (basE d k - basE d i)) ∧ w' = w.drew := by
  obtain ⟨x, hxi⟩ : ∃ x, Hid (d.1[i]? = some x) := get_ex d.1 i (by rw [hn]; exact hi)
  obtain ⟨y, hyk⟩ : ∃ y, Hid (d.1[k]? = some y) := get_ex d.1 k (by rw [hn]; exact hk)
  obtain ⟨bb, off, rfl, hbb, q0, q1, q2, q3, _⟩ := hl.element i x hxi.out
  obtain ⟨bb', off', e, _, r0, r1, r2, r3, _⟩ := hl.element k y hyk.out
  simp only [Option.some.injEq, Addr.mk.injEq, and_true] at e
  obtain ⟨rfl, rfl⟩ := e
  have ex := elB_ok (hd.els i x hxi.out)
  have ey := elB_ok (hd.els k y hyk.out)
  rw [basE_eq hxi.out, basE_eq hyk.out]
  have cB := hb.cell
  have a1 := hl.1; have a2 := hl.2.1
  rw [hn] at a1
  have z1 : x.2.2.2 ≤ 2000 := by omega
  have z2 : 1 ≤ x.2.2.2 := by omega
  have z3 : y.2.2.2 ≤ 2000 := by omega
  have z4 : 1 ≤ y.2.2.2 := by omega
  clear ex ey hl hd hn hxi hyk q0 q1 q2 r0 r1 r2
  generalize x.2.2.2 = u at *
  generalize y.2.2.2 = v at *
  have i1 : (i : Int) < nc := by omega
  have i2 : (k : Int) < nc := by omega
  go_enter Try.func54, Try.ntmps54
  go_wp2
  go_region
  all_goals
    go_wp2
    go_ret
    exact ⟨ret_int (by first | rfl | rw [IntWalk.i64_in _ (by omega)]), rfl⟩

set_option maxRecDepth 100000 in
set_option maxHeartbeats 2000000 in
theorem closSingles (w : World) (gb Bd : Nat) (d : CoD) {Ac Al : Option Addr} {nc cc nl cl : Nat} {r b p f : Int} {T : TypeId} (hb : Blk w gb #[.slice Ac nc cc, .slice Al nl cl, .int .i64 r, .int .i64 b, .int .i64 p, .int .i64 f] T) (hn : d.1.length = nc) (hl : LR kdEl w Bd Ac cc d.1) (hd : CodeOk d) (i k : Nat) (hi : i < nc) (hk : k < nc) :
    Calls Try.prog 34 #[.int .i64 i, .int .i64 k, .pointer (some ⟨gb, 0, none⟩)] w fun e w' => e = .returned (.int .i64 (basE d i - basE d k)) ∧ w' = w.drew := by
  obtain ⟨x, hxi⟩ : ∃ x, Hid (d.1[i]? = some x) := get_ex d.1 i (by rw [hn]; exact hi)
  obtain ⟨y, hyk⟩ : ∃ y, Hid (d.1[k]? = some y) := get_ex d.1 k (by rw [hn]; exact hk)
  obtain ⟨bb, off, rfl, hbb, q0, q1, q2, q3, _⟩ := hl.element i x hxi.out
  obtain ⟨bb', off', e, _, r0, r1, r2, r3, _⟩ := hl.element k y hyk.out
  simp only [Option.some.injEq, Addr.mk.injEq, and_true] at e
  obtain ⟨rfl, rfl⟩ := e
  have ex := elB_ok (hd.els i x hxi.out)
  have ey := elB_ok (hd.els k y hyk.out)
  rw [basE_eq hxi.out, basE_eq hyk.out]
  have cB := hb.cell
  have a1 := hl.1; have a2 := hl.2.1
  rw [hn] at a1
  have z1 : x.2.2.2 ≤ 2000 := by omega
  have z2 : 1 ≤ x.2.2.2 := by omega
  have z3 : y.2.2.2 ≤ 2000 := by omega
  have z4 : 1 ≤ y.2.2.2 := by omega
  clear ex ey hl hd hn hxi hyk q0 q1 q2 r0 r1 r2
  generalize x.2.2.2 = u at *
  generalize y.2.2.2 = v at *
  have i1 : (i : Int) < nc := by omega
  have i2 : (k : Int) < nc := by omega
  go_enter Try.func34, Try.ntmps34
  go_wp2
  go_region
  all_goals
    go_wp2
    go_ret
    exact ⟨ret_int (by first | rfl | rw [IntWalk.i64_in _ (by omega)]), rfl⟩
/-- The other order: less, or as great and earlier. -/
def befS (base : Nat → Int) (i k : Nat) : Prop := base i < base k ∨ (base i = base k ∧ i < k)
theorem befS_trans {base : Nat → Int} {i j k : Nat} (h : befS base i j) (h' : befS base j k) : befS base i k := by
  unfold befS at *
  omega
def cutN (N x : Nat) : Nat := min x (N - 1)
theorem cutN_lt {N x : Nat} (h : 0 < N) : cutN N x < N := by unfold cutN; omega
theorem cutN_id {N x : Nat} (h : x < N) : cutN N x = x := by unfold cutN; omega

theorem sortNames_m (W0 w : World) (gb Bd : Nat) (d : CoD) {Ac Al : Option Addr} {nc cc nl cl : Nat} {r b p f : Int} {T : TypeId} (hb : Blk W0 gb #[.slice Ac nc cc, .slice Al nl cl, .int .i64 r, .int .i64 b, .int .i64 p, .int .i64 f] T) (hn : d.1.length = nc) (hl : LR kdEl W0 Bd Ac cc d.1) (hB : Bd ≤ W0.heap.size) (hd : CodeOk d) (hx : Ext W0 w)
    (g c lo n : Nat) (js : List Nat) (h : OwnI 3 w lo (some ⟨g, 0, none⟩) n c (intL js)) (hg : W0.heap.size ≤ g) (hjs : ∀ i ∈ js, i < nc) (hs : js.Pairwise (fun x y => x < y)) (h0 : 0 < nc) (h40 : n < 40) :
    Calls Try.prog 33 #[.slice (some ⟨g, 0, none⟩) n c, .func (.func 54) #[] #[.pointer (some ⟨gb, 0, none⟩)]] w fun e w' => e = .returned (.tuple #[]) ∧ ∃ M : List Nat, M.Perm js ∧ M.Pairwise (befF (basE d)) ∧ OwnI 3 w' lo (some ⟨g, 0, none⟩) n c (intL M) ∧ Ext W0 w' ∧ w.grownBy w' (some g) := by
  have el : n = js.length := by have := h.len; rw [intL_len] at this; exact this.symm
  subst el
  have ev : js.map (fun x => ((cutN nc x : Nat) : Int)) = intL js := List.map_congr_left fun i hi => by rw [cutN_id (hjs i hi)]
  rw [← ev] at h
  have H0 := own_holdsE (v := fun x => ((cutN nc x : Nat) : Int)) h
  have hgl : g < w.heap.size := by
    rcases h.form with ⟨q, _⟩ | ⟨g', q, _, q2, _⟩
    · cases q
    · injection q with q; injection q with q; omega
  have CM : CmpLays1 Try.prog 54 #[.pointer (some ⟨gb, 0, none⟩)] (eI (fun x => ((cutN nc x : Nat) : Int))) (fun x y => basE d (cutN nc y) - basE d (cutN nc x)) g 0 js.toArray.size w := fun m os dk hk x y => by
    have hX := sortWorld_ext (v := fun x => ((cutN nc x : Nat) : Int)) (m := m) (l := dk) (os := os) hx hg
    refine (closNames _ gb Bd d (hb.ext hX) hn (hl.ext hX hB) hd (cutN nc x) (cutN nc y) (cutN_lt h0) (cutN_lt h0)).mono ?_
    rintro e w' ⟨rfl, rfl⟩
    exact ⟨rfl, 1, #[], by rw [grow_empty]; rfl⟩
  have hS := sortStable_m (T := befF (fun i => basE d (cutN nc i))) (fun x y z => befF_trans) (fun x => ((cutN nc x : Nat) : Int)) (fun x y => basE d (cutN nc y) - basE d (cutN nc x)) 54 #[.pointer (some ⟨gb, 0, none⟩)] g 0 c js.toArray w w ⟨one_eI _, H0, hgl⟩
    (enters_of Try.func54 (by kernel_rfl) rfl) CM js (by simp) h40 (hs.imp (fun {x y} hxy => by
      unfold LtOf ltOf befF
      simp only []
      refine ⟨fun h => ?_, fun h => ?_⟩
      · have := of_decide_eq_true h
        omega
      · have := of_decide_eq_false h
        omega)) (SW.start H0)
  rw [List.size_toArray] at hS
  refine hS.mono ?_
  rintro e w' ⟨rfl, M, p1, t1, s1⟩
  obtain ⟨o2, g2⟩ := own_sorted h p1.length_eq s1
  have hM : ∀ i ∈ M, i < nc := fun i hi => hjs i (p1.mem_iff.1 hi)
  have ev2 : M.map (fun x => ((cutN nc x : Nat) : Int)) = intL M := List.map_congr_left fun i hi => by rw [cutN_id (hM i hi)]
  rw [ev2] at o2
  refine ⟨rfl, M, p1, ?_, o2, hx.grown g2 hx.size (by simpa using hg), g2⟩
  exact t1.imp_of_mem (fun {x y} hx hy hxy => by
    unfold befF at hxy ⊢
    simp only [cutN_id (hM x hx), cutN_id (hM y hy)] at hxy
    exact hxy)

theorem sortSingles_m (W0 w : World) (gb Bd : Nat) (d : CoD) {Ac Al : Option Addr} {nc cc nl cl : Nat} {r b p f : Int} {T : TypeId} (hb : Blk W0 gb #[.slice Ac nc cc, .slice Al nl cl, .int .i64 r, .int .i64 b, .int .i64 p, .int .i64 f] T) (hn : d.1.length = nc) (hl : LR kdEl W0 Bd Ac cc d.1) (hB : Bd ≤ W0.heap.size) (hd : CodeOk d) (hx : Ext W0 w)
    (g c lo n : Nat) (js : List Nat) (h : OwnI 3 w lo (some ⟨g, 0, none⟩) n c (intL js)) (hg : W0.heap.size ≤ g) (hjs : ∀ i ∈ js, i < nc) (hs : js.Pairwise (fun x y => x < y)) (h0 : 0 < nc) (h40 : n < 40) :
    Calls Try.prog 33 #[.slice (some ⟨g, 0, none⟩) n c, .func (.func 34) #[] #[.pointer (some ⟨gb, 0, none⟩)]] w fun e w' => e = .returned (.tuple #[]) ∧ ∃ M : List Nat, M.Perm js ∧ M.Pairwise (befS (basE d)) ∧ OwnI 3 w' lo (some ⟨g, 0, none⟩) n c (intL M) ∧ Ext W0 w' ∧ w.grownBy w' (some g) := by
  have el : n = js.length := by have := h.len; rw [intL_len] at this; exact this.symm
  subst el
  have ev : js.map (fun x => ((cutN nc x : Nat) : Int)) = intL js := List.map_congr_left fun i hi => by rw [cutN_id (hjs i hi)]
  rw [← ev] at h
  have H0 := own_holdsE (v := fun x => ((cutN nc x : Nat) : Int)) h
  have hgl : g < w.heap.size := by
    rcases h.form with ⟨q, _⟩ | ⟨g', q, _, q2, _⟩
    · cases q
    · injection q with q; injection q with q; omega
  have CM : CmpLays1 Try.prog 34 #[.pointer (some ⟨gb, 0, none⟩)] (eI (fun x => ((cutN nc x : Nat) : Int))) (fun x y => basE d (cutN nc x) - basE d (cutN nc y)) g 0 js.toArray.size w := fun m os dk hk x y => by
    have hX := sortWorld_ext (v := fun x => ((cutN nc x : Nat) : Int)) (m := m) (l := dk) (os := os) hx hg
    refine (closSingles _ gb Bd d (hb.ext hX) hn (hl.ext hX hB) hd (cutN nc x) (cutN nc y) (cutN_lt h0) (cutN_lt h0)).mono ?_
    rintro e w' ⟨rfl, rfl⟩
    exact ⟨rfl, 1, #[], by rw [grow_empty]; rfl⟩
  have hS := sortStable_m (T := befS (fun i => basE d (cutN nc i))) (fun x y z => befS_trans) (fun x => ((cutN nc x : Nat) : Int)) (fun x y => basE d (cutN nc x) - basE d (cutN nc y)) 34 #[.pointer (some ⟨gb, 0, none⟩)] g 0 c js.toArray w w ⟨one_eI _, H0, hgl⟩
    (enters_of Try.func34 (by kernel_rfl) rfl) CM js (by simp) h40 (hs.imp (fun {x y} hxy => by
      unfold LtOf ltOf befS
      simp only []
      refine ⟨fun h => ?_, fun h => ?_⟩
      · have := of_decide_eq_true h
        omega
      · have := of_decide_eq_false h
        omega)) (SW.start H0)
  rw [List.size_toArray] at hS
  refine hS.mono ?_
  rintro e w' ⟨rfl, M, p1, t1, s1⟩
  obtain ⟨o2, g2⟩ := own_sorted h p1.length_eq s1
  have hM : ∀ i ∈ M, i < nc := fun i hi => hjs i (p1.mem_iff.1 hi)
  have ev2 : M.map (fun x => ((cutN nc x : Nat) : Int)) = intL M := List.map_congr_left fun i hi => by rw [cutN_id (hM i hi)]
  rw [ev2] at o2
  refine ⟨rfl, M, p1, ?_, o2, hx.grown g2 hx.size (by simpa using hg), g2⟩
  exact t1.imp_of_mem (fun {x y} hx hy hxy => by
    unfold befS at hxy ⊢
    simp only [cutN_id (hM x hx), cutN_id (hM y hy)] at hxy
    exact hxy)
end Go.Proofs.Ytcnpbaldnhfebaa
