/- GK: BA, BB, BC, BD, BE, BF, BG, BH in one text. -/
import Derived.Test.YtegoapdbpfhkiaaGreatGS
import Derived.Test.YtegoapdbpfhkiaaGreatSN
import Derived.Test.YtegoapdbpfhkiaaGreatGP
import Derived.Deep.DeepCutAuto
import Derived.Test.YtegoapdbpfhkiaaGreatGR
import Derived.Test.YtegoapdbpfhkiaaGreatGV
import Derived.Sort.Walk0
import Derived.Test.YtegoapdbpfhkiaaGreatGW
/- Indices sorted by the bases of their elements. -/
namespace Go.Proofs.YtegoapdbpfhkiaaGreat
open Go.RowKit Go.Sort
set_option linter.unusedVariables false

theorem putCells_enc {α : Type} [Inhabited α] (v : α → Int) (l : List α) (c : Array Value) : putCells (eI v) 0 l.toArray c = putCells (Value.int .i64) 0 (l.map v).toArray c := by
  unfold putCells
  apply Array.ext_getElem?
  intro k
  rw [Array.getElem?_mapIdx, Array.getElem?_mapIdx]
  cases c[k]? with
  | none => rfl
  | some x =>
    simp only [Option.map_some, List.size_toArray, List.length_map, Nat.zero_add, Nat.sub_zero, Nat.zero_le, true_and]
    by_cases h : k < l.length
    · rw [if_pos h, if_pos h, la_get, la_get, List.getD_eq_getElem?_getD, List.getD_eq_getElem?_getD, List.getElem?_map, List.getElem?_eq_getElem h]
      rfl
    · rw [if_neg h, if_neg h]
theorem putRow_enc {α : Type} [Inhabited α] (v : α → Int) (w : World) (g : Nat) (l : List α) : putRow (eI v) w g 0 l.toArray = putRow (Value.int .i64) w g 0 (l.map v).toArray := by
  unfold putRow
  congr 1
  funext c
  exact putCells_enc v l c
theorem own_holdsE {α : Type} [Inhabited α] {v : α → Int} {e : TypeId} {w : World} {lo n c g : Nat} {l : List α} (h : OwnI e w lo (some ⟨g, 0, none⟩) n c (l.map v)) : Holds (eI v) w g 0 l.toArray := by
  have h0 := Own.holds h
  intro j hj
  have h1 := h0 j (by simpa using hj)
  rw [la_get] at h1 ⊢
  have hj' : j < l.length := by simpa using hj
  rw [List.getD_eq_getElem?_getD, List.getElem?_map, List.getElem?_eq_getElem hj'] at h1
  rw [List.getD_eq_getElem?_getD, List.getElem?_eq_getElem hj']
  exact h1
theorem own_sorted {α : Type} [Inhabited α] {v : α → Int} {e : TypeId} {w w' : World} {lo n c g : Nat} {l m : List α} (h : OwnI e w lo (some ⟨g, 0, none⟩) n c (l.map v)) (hm : m.length = l.length) (hs : SW (eI v) w g 0 m.toArray w') :
    OwnI e w' lo (some ⟨g, 0, none⟩) n c (m.map v) ∧ w.grownBy w' (some g) := by
  obtain ⟨k, os, rfl⟩ := hs
  have hl := h.len
  subst hl
  obtain ⟨cur, hb, h1, h2, h3, h4⟩ := h.block
  unfold sortWorld
  rw [putRow_enc]
  exact ⟨ownsRow_sortedI (by simp [hm]) h1 hb h2 h3 h4, grownBy_sortedI _⟩
theorem one_eI {α : Type} (v : α → Int) : OneCell (eI v) := fun _ => rfl
/-- A world of the sort's is the caller's, but for the row. -/
theorem sortWorld_ext {α : Type} [Inhabited α] {v : α → Int} {u w : World} {g m : Nat} {l : Array α} {os : Array Obj} (hx : Ext u w) (hg : u.heap.size ≤ g) : Ext u (sortWorld (eI v) w g 0 m l os) := by
  have h2 : sortWorld (eI v) w g 0 m l os = sortWorld (eI v) w g 0 m l.toList.toArray os := rfl
  rw [h2]
  unfold sortWorld
  rw [putRow_enc]
  exact hx.grown (grownBy_sortedI _) hx.size (by simpa using hg)

set_option maxRecDepth 100000 in
set_option maxHeartbeats 2000000 in
theorem closNames (w : World) (gb Bd : Nat) (d : CoD) {Ac Al : Option Addr} {nc cc nl cl : Nat} {r b p f : Int} {T : TypeId} (hb : Blk w gb #[.slice Ac nc cc, .slice Al nl cl, .int .i64 r, .int .i64 b, .int .i64 p, .int .i64 f] T) (hn : d.1.length = nc) (hl : LR kdEl w Bd Ac cc d.1) (hd : CodeOk d) (i k : Nat) (hi : i < nc) (hk : k < nc) :
    Calls Tryz.prog 66 #[.int .i64 i, .int .i64 k, .pointer (some ⟨gb, 0, none⟩)] w fun e w' => e = .returned (.int .i64 (basE d k - basE d i)) ∧ w' = w.drew := by
  obtain ⟨x, hxi⟩ : ∃ x, Hid (d.1[i]? = some x) := get_ex d.1 i (by rw [hn]; exact hi)
  obtain ⟨y, hyk⟩ : ∃ y, Hid (d.1[k]? = some y) := get_ex d.1 k (by rw [hn]; exact hk)
  obtain ⟨bb, off, rfl, hbb, q0, q1, q2, q3, _⟩ := hl.element i x hxi.out
  obtain ⟨bb', off', e, _, r0, r1, r2, r3, _⟩ := hl.element k y hyk.out
  simp only [Option.some.injEq, Addr.mk.injEq, and_true] at e
  obtain ⟨rfl, rfl⟩ := e
  have ex := elB_ok (hd.els i x hxi.out)
  have ey := elB_ok (hd.els k y hyk.out)
  rw [basE_eq hxi.out, basE_eq hyk.out]
  have cB := hb.cell
  have a1 := hl.1; have a2 := hl.2.1
  rw [hn] at a1
  have z1 : x.2.2.2 ≤ 2000 := by omega
  have z2 : 1 ≤ x.2.2.2 := by omega
  have z3 : y.2.2.2 ≤ 2000 := by omega
  have z4 : 1 ≤ y.2.2.2 := by omega
  clear ex ey hl hd hn hxi hyk q0 q1 q2 r0 r1 r2
  generalize x.2.2.2 = u at *
  generalize y.2.2.2 = v at *
  have i1 : (i : Int) < nc := by omega
  have i2 : (k : Int) < nc := by omega
  go_enter Tryz.func66, Tryz.ntmps66
  go_wp2
  go_region
  all_goals
    go_wp2
    go_ret
    exact ⟨ret_int (by first | rfl | rw [IntWalk.i64_in _ (by omega)]), rfl⟩

set_option maxRecDepth 100000 in
set_option maxHeartbeats 2000000 in
theorem closSingles (w : World) (gb Bd : Nat) (d : CoD) {Ac Al : Option Addr} {nc cc nl cl : Nat} {r b p f : Int} {T : TypeId} (hb : Blk w gb #[.slice Ac nc cc, .slice Al nl cl, .int .i64 r, .int .i64 b, .int .i64 p, .int .i64 f] T) (hn : d.1.length = nc) (hl : LR kdEl w Bd Ac cc d.1) (hd : CodeOk d) (i k : Nat) (hi : i < nc) (hk : k < nc) :
    Calls Tryz.prog 25 #[.int .i64 i, .int .i64 k, .pointer (some ⟨gb, 0, none⟩)] w fun e w' => e = .returned (.int .i64 (basE d i - basE d k)) ∧ w' = w.drew := by
  obtain ⟨x, hxi⟩ : ∃ x, Hid (d.1[i]? = some x) := get_ex d.1 i (by rw [hn]; exact hi)
  obtain ⟨y, hyk⟩ : ∃ y, Hid (d.1[k]? = some y) := get_ex d.1 k (by rw [hn]; exact hk)
  obtain ⟨bb, off, rfl, hbb, q0, q1, q2, q3, _⟩ := hl.element i x hxi.out
  obtain ⟨bb', off', e, _, r0, r1, r2, r3, _⟩ := hl.element k y hyk.out
  simp only [Option.some.injEq, Addr.mk.injEq, and_true] at e
  obtain ⟨rfl, rfl⟩ := e
  have ex := elB_ok (hd.els i x hxi.out)
  have ey := elB_ok (hd.els k y hyk.out)
  rw [basE_eq hxi.out, basE_eq hyk.out]
  have cB := hb.cell
  have a1 := hl.1; have a2 := hl.2.1
  rw [hn] at a1
  have z1 : x.2.2.2 ≤ 2000 := by omega
  have z2 : 1 ≤ x.2.2.2 := by omega
  have z3 : y.2.2.2 ≤ 2000 := by omega
  have z4 : 1 ≤ y.2.2.2 := by omega
  clear ex ey hl hd hn hxi hyk q0 q1 q2 r0 r1 r2
  generalize x.2.2.2 = u at *
  generalize y.2.2.2 = v at *
  have i1 : (i : Int) < nc := by omega
  have i2 : (k : Int) < nc := by omega
  go_enter Tryz.func25, Tryz.ntmps25
  go_wp2
  go_region
  all_goals
    go_wp2
    go_ret
    exact ⟨ret_int (by first | rfl | rw [IntWalk.i64_in _ (by omega)]), rfl⟩
/-- The other order: less, or as great and earlier. -/
def befS (base : Nat → Int) (i k : Nat) : Prop := base i < base k ∨ (base i = base k ∧ i < k)
theorem befS_trans {base : Nat → Int} {i j k : Nat} (h : befS base i j) (h' : befS base j k) : befS base i k := by
  unfold befS at *
  omega
def cutN (N x : Nat) : Nat := min x (N - 1)
theorem cutN_lt {N x : Nat} (h : 0 < N) : cutN N x < N := by unfold cutN; omega
theorem cutN_id {N x : Nat} (h : x < N) : cutN N x = x := by unfold cutN; omega

theorem sortNames_m (W0 w : World) (gb Bd : Nat) (d : CoD) {Ac Al : Option Addr} {nc cc nl cl : Nat} {r b p f : Int} {T : TypeId} (hb : Blk W0 gb #[.slice Ac nc cc, .slice Al nl cl, .int .i64 r, .int .i64 b, .int .i64 p, .int .i64 f] T) (hn : d.1.length = nc) (hl : LR kdEl W0 Bd Ac cc d.1) (hB : Bd ≤ W0.heap.size) (hd : CodeOk d) (hx : Ext W0 w)
    (g c lo n : Nat) (js : List Nat) (h : OwnI 3 w lo (some ⟨g, 0, none⟩) n c (intL js)) (hg : W0.heap.size ≤ g) (hjs : ∀ i ∈ js, i < nc) (hs : js.Pairwise (fun x y => x < y)) (h0 : 0 < nc) (h40 : n < 40) :
    Calls Tryz.prog 24 #[.slice (some ⟨g, 0, none⟩) n c, .func (.func 66) #[] #[.pointer (some ⟨gb, 0, none⟩)]] w fun e w' => e = .returned (.tuple #[]) ∧ ∃ M : List Nat, M.Perm js ∧ M.Pairwise (befF (basE d)) ∧ OwnI 3 w' lo (some ⟨g, 0, none⟩) n c (intL M) ∧ Ext W0 w' ∧ w.grownBy w' (some g) := by
  have el : n = js.length := by have := h.len; rw [intL_len] at this; exact this.symm
  subst el
  have ev : js.map (fun x => ((cutN nc x : Nat) : Int)) = intL js := List.map_congr_left fun i hi => by rw [cutN_id (hjs i hi)]
  rw [← ev] at h
  have H0 := own_holdsE (v := fun x => ((cutN nc x : Nat) : Int)) h
  have hgl : g < w.heap.size := by
    rcases h.form with ⟨q, _⟩ | ⟨g', q, _, q2, _⟩
    · cases q
    · injection q with q; injection q with q; omega
  have CM : CmpLays1 Tryz.prog 66 #[.pointer (some ⟨gb, 0, none⟩)] (eI (fun x => ((cutN nc x : Nat) : Int))) (fun x y => basE d (cutN nc y) - basE d (cutN nc x)) g 0 js.toArray.size w := fun m os dk hk x y => by
    have hX := sortWorld_ext (v := fun x => ((cutN nc x : Nat) : Int)) (m := m) (l := dk) (os := os) hx hg
    refine (closNames _ gb Bd d (hb.ext hX) hn (hl.ext hX hB) hd (cutN nc x) (cutN nc y) (cutN_lt h0) (cutN_lt h0)).mono ?_
    rintro e w' ⟨rfl, rfl⟩
    exact ⟨rfl, 1, #[], by rw [grow_empty]; rfl⟩
  have hS := sortStable_m (T := befF (fun i => basE d (cutN nc i))) (fun x y z => befF_trans) (fun x => ((cutN nc x : Nat) : Int)) (fun x y => basE d (cutN nc y) - basE d (cutN nc x)) 66 #[.pointer (some ⟨gb, 0, none⟩)] g 0 c js.toArray w w ⟨one_eI _, H0, hgl⟩
    (enters_of Tryz.func66 (by kernel_rfl) rfl) CM js (by simp) h40 (hs.imp (fun {x y} hxy => by
      unfold LtOf ltOf befF
      simp only []
      refine ⟨fun h => ?_, fun h => ?_⟩
      · have := of_decide_eq_true h
        omega
      · have := of_decide_eq_false h
        omega)) (SW.start H0)
  rw [List.size_toArray] at hS
  refine hS.mono ?_
  rintro e w' ⟨rfl, M, p1, t1, s1⟩
  obtain ⟨o2, g2⟩ := own_sorted h p1.length_eq s1
  have hM : ∀ i ∈ M, i < nc := fun i hi => hjs i (p1.mem_iff.1 hi)
  have ev2 : M.map (fun x => ((cutN nc x : Nat) : Int)) = intL M := List.map_congr_left fun i hi => by rw [cutN_id (hM i hi)]
  rw [ev2] at o2
  refine ⟨rfl, M, p1, ?_, o2, hx.grown g2 hx.size (by simpa using hg), g2⟩
  exact t1.imp_of_mem (fun {x y} hx hy hxy => by
    unfold befF at hxy ⊢
    simp only [cutN_id (hM x hx), cutN_id (hM y hy)] at hxy
    exact hxy)

theorem sortSingles_m (W0 w : World) (gb Bd : Nat) (d : CoD) {Ac Al : Option Addr} {nc cc nl cl : Nat} {r b p f : Int} {T : TypeId} (hb : Blk W0 gb #[.slice Ac nc cc, .slice Al nl cl, .int .i64 r, .int .i64 b, .int .i64 p, .int .i64 f] T) (hn : d.1.length = nc) (hl : LR kdEl W0 Bd Ac cc d.1) (hB : Bd ≤ W0.heap.size) (hd : CodeOk d) (hx : Ext W0 w)
    (g c lo n : Nat) (js : List Nat) (h : OwnI 3 w lo (some ⟨g, 0, none⟩) n c (intL js)) (hg : W0.heap.size ≤ g) (hjs : ∀ i ∈ js, i < nc) (hs : js.Pairwise (fun x y => x < y)) (h0 : 0 < nc) (h40 : n < 40) :
    Calls Tryz.prog 24 #[.slice (some ⟨g, 0, none⟩) n c, .func (.func 25) #[] #[.pointer (some ⟨gb, 0, none⟩)]] w fun e w' => e = .returned (.tuple #[]) ∧ ∃ M : List Nat, M.Perm js ∧ M.Pairwise (befS (basE d)) ∧ OwnI 3 w' lo (some ⟨g, 0, none⟩) n c (intL M) ∧ Ext W0 w' ∧ w.grownBy w' (some g) := by
  have el : n = js.length := by have := h.len; rw [intL_len] at this; exact this.symm
  subst el
  have ev : js.map (fun x => ((cutN nc x : Nat) : Int)) = intL js := List.map_congr_left fun i hi => by rw [cutN_id (hjs i hi)]
  rw [← ev] at h
  have H0 := own_holdsE (v := fun x => ((cutN nc x : Nat) : Int)) h
  have hgl : g < w.heap.size := by
    rcases h.form with ⟨q, _⟩ | ⟨g', q, _, q2, _⟩
    · cases q
    · injection q with q; injection q with q; omega
  have CM : CmpLays1 Tryz.prog 25 #[.pointer (some ⟨gb, 0, none⟩)] (eI (fun x => ((cutN nc x : Nat) : Int))) (fun x y => basE d (cutN nc x) - basE d (cutN nc y)) g 0 js.toArray.size w := fun m os dk hk x y => by
    have hX := sortWorld_ext (v := fun x => ((cutN nc x : Nat) : Int)) (m := m) (l := dk) (os := os) hx hg
    refine (closSingles _ gb Bd d (hb.ext hX) hn (hl.ext hX hB) hd (cutN nc x) (cutN nc y) (cutN_lt h0) (cutN_lt h0)).mono ?_
    rintro e w' ⟨rfl, rfl⟩
    exact ⟨rfl, 1, #[], by rw [grow_empty]; rfl⟩
  have hS := sortStable_m (T := befS (fun i => basE d (cutN nc i))) (fun x y z => befS_trans) (fun x => ((cutN nc x : Nat) : Int)) (fun x y => basE d (cutN nc x) - basE d (cutN nc y)) 25 #[.pointer (some ⟨gb, 0, none⟩)] g 0 c js.toArray w w ⟨one_eI _, H0, hgl⟩
    (enters_of Tryz.func25 (by kernel_rfl) rfl) CM js (by simp) h40 (hs.imp (fun {x y} hxy => by
      unfold LtOf ltOf befS
      simp only []
      refine ⟨fun h => ?_, fun h => ?_⟩
      · have := of_decide_eq_true h
        omega
      · have := of_decide_eq_false h
        omega)) (SW.start H0)
  rw [List.size_toArray] at hS
  refine hS.mono ?_
  rintro e w' ⟨rfl, M, p1, t1, s1⟩
  obtain ⟨o2, g2⟩ := own_sorted h p1.length_eq s1
  have hM : ∀ i ∈ M, i < nc := fun i hi => hjs i (p1.mem_iff.1 hi)
  have ev2 : M.map (fun x => ((cutN nc x : Nat) : Int)) = intL M := List.map_congr_left fun i hi => by rw [cutN_id (hM i hi)]
  rw [ev2] at o2
  refine ⟨rfl, M, p1, ?_, o2, hx.grown g2 hx.size (by simpa using hg), g2⟩
  exact t1.imp_of_mem (fun {x y} hx hy hxy => by
    unfold befS at hxy ⊢
    simp only [cutN_id (hM x hx), cutN_id (hM y hy)] at hxy
    exact hxy)
end Go.Proofs.YtegoapdbpfhkiaaGreat

/- The best elements, greedily, by the program. -/
namespace Go.Proofs.YtegoapdbpfhkiaaGreat
open Go.RowKit Go.Sort
set_option linter.unusedVariables false

theorem closTrue (w : World) (i : Int) : Calls Tryz.prog 65 #[.int .i64 i] w fun e w' => e = .returned (.bool true) ∧ w = w' := by
  go_enter Tryz.func65, Tryz.ntmps65
  go_wp2
  go_ret
  exact ⟨rfl, rfl⟩
theorem intL_snoc (l : List Nat) (k : Nat) : (intL l).map (Value.int .i64) ++ [Value.int .i64 (k : Int)] = (intL (l ++ [k])).map (Value.int .i64) := by simp [intL]

set_option maxRecDepth 100000 in
set_option maxHeartbeats 2000000 in
theorem indices_m (n : Nat) (w : World) (hn : n ≤ 1048576) :
    Calls Tryz.prog 64 #[.int .i64 n, .func (.func 65) #[] #[]] w fun e w' => ∃ A' c', e = .returned (.slice A' n c') ∧ OwnI 3 w' w.heap.size A' n c' (intL (List.range n)) ∧ Ext w w' := by
  go_enter Tryz.func64, Tryz.ntmps64
  go_wp2
  have O0 : Hid (OwnI 3 (w.alloc (.cells #[] 3)) w.heap.size (some ⟨w.heap.size, 0, none⟩) 0 0 (intL (List.range 0))) := Own.empty w 3 (Nat.le_refl _)
  have X0 : Hid (Ext w (w.alloc (.cells #[] 3))) := Ext.alloc w _
  go_loopw [5, 9] (fun s5 s9 wr => ∃ (k : Nat) (A : Option Addr) (c : Nat), k ≤ n ∧ s9 = .int .i64 k ∧ s5 = .slice A k c ∧ OwnI 3 wr w.heap.size A k c (intL (List.range k)) ∧ Ext w wr) (fun _ s9 _ => n - (intOf s9).toNat)
  case atStart => exact ⟨0, _, _, Nat.zero_le _, rfl, rfl, O0.out, X0.out⟩
  case round =>
    obtain ⟨k, A, c, hk, rfl, rfl, ho, hx⟩ := hrel
    have O5 := hide ho
    have HX := hide hx
    clear ho hx O0 X0
    by_cases hlt : k < n
    · have hltz : (k : Int) < (n : Int) := by omega
      have EQ := hide (intL_snoc (List.range k) k)
      rw [← List.range_succ] at EQ
      have cap := O5.out.capn
      generalize intL (List.range k) = L at *
      go_wp2_with (first | (go_at_call 65; refine (closTrue _ _).mono ?_; rintro e w' ⟨rfl, rfl⟩) | (at_builtin; refine wpList_append_sl rfl (.tmp 15) (.tmp 17) rfl elem_int rfl rfl (lo := w.heap.size) (Own.alloc O5.out (.cells #[.int .i64 k] 3)) (Sl.one wr (.int .i64 k) 3) (one_int _) ?c1 ?c2 ?c3 ?_))
      case c1 => omega
      case c2 => omega
      case c3 => have := HX.out.size; simp; omega
      intro A9 c9 w9 hap
      have XE := hide (hap.ext (HX.out.trans (Ext.alloc wr _)) (Own.fromLo O5.out))
      have O9 : Hid (OwnI 3 w9 w.heap.size A9 (k + 1) c9 (intL (List.range (k + 1)))) := own_conv hap.own (Nat.le_refl _) rfl EQ.out
      clear hap
      go_wp2
      go_roundw
      case rel => exact ⟨k + 1, A9, c9, by omega, by go_num, rfl, O9.out, XE.out⟩
      case measure => simp [intOf]; omega
    · have e : k = n := by omega
      subst e
      go_wp2
      go_ret
      exact ⟨_, _, rfl, O5.out, HX.out⟩
end Go.Proofs.YtegoapdbpfhkiaaGreat

/- The best elements, greedily, by the program. -/
namespace Go.Proofs.YtegoapdbpfhkiaaGreat
open Go.RowKit Go.Sort
set_option linter.unusedVariables false

theorem grdF_snoc {fam lim : Nat → Nat} {n x : Nat} : ∀ (l out : List Nat), grdF fam lim n (l ++ [x]) out = if (grdF fam lim n l out).length < n ∧ 0 < roomF fam lim (grdF fam lim n l out) (fam x) then grdF fam lim n l out ++ [x] else grdF fam lim n l out
  | [], out => by
    show grdF fam lim n [x] out = _
    unfold grdF
    show (if _ then grdF fam lim n [] _ else grdF fam lim n [] _) = _
    rfl
  | y :: t, out => by
    rw [List.cons_append]
    unfold grdF
    split
    · exact grdF_snoc t _
    · exact grdF_snoc t _
/-- The greedy choice along the first k of a list. -/
def grK (d : CoD) (n : Nat) (M : List Nat) (k : Nat) : List Nat := grdF (famE d) (limE d) n (M.take k) []
theorem grK_zero (d : CoD) (n : Nat) (M : List Nat) : grK d n M 0 = [] := rfl
theorem grK_yes {d : CoD} {n : Nat} {M : List Nat} {k x : Nat} (h : M[k]? = some x) (h1 : (grK d n M k).length < n) (h2 : 0 < roomF (famE d) (limE d) (grK d n M k) (famE d x)) : grK d n M (k + 1) = grK d n M k ++ [x] := by
  obtain ⟨hk, rfl⟩ := List.getElem?_eq_some_iff.1 h
  unfold grK at *
  rw [List.take_succ_eq_append_getElem hk, grdF_snoc, if_pos ⟨h1, h2⟩]
theorem grK_no {d : CoD} {n : Nat} {M : List Nat} {k x : Nat} (h : M[k]? = some x) (h1 : ¬ ((grK d n M k).length < n ∧ 0 < roomF (famE d) (limE d) (grK d n M k) (famE d x))) : grK d n M (k + 1) = grK d n M k := by
  obtain ⟨hk, rfl⟩ := List.getElem?_eq_some_iff.1 h
  unfold grK at *
  rw [List.take_succ_eq_append_getElem hk, grdF_snoc, if_neg h1]
theorem grK_len {d : CoD} {n : Nat} {M : List Nat} : ∀ k, k ≤ M.length → (grK d n M k).length ≤ n := by
  intro k
  induction k with
  | zero => intro _; simp [grK_zero]
  | succ k ih =>
    intro hk
    have h1 := ih (by omega)
    have hx : M[k]? = some (M[k]'(by omega)) := List.getElem?_eq_getElem (by omega)
    by_cases h : (grK d n M k).length < n ∧ 0 < roomF (famE d) (limE d) (grK d n M k) (famE d (M[k]'(by omega)))
    · rw [grK_yes hx h.1 h.2, List.length_append, List.length_singleton]; omega
    · rw [grK_no hx h]; exact h1
theorem grK_all {d : CoD} {n : Nat} {M : List Nat} (hp : M.Perm (List.range d.1.length)) (hs : M.Pairwise (befF (basE d))) : grK d n M M.length = chosF d n := by
  unfold grK chosF chF
  rw [List.take_length]
  refine (choosF_grd M n [] hs (fun i hi _ _ => hp.mem_iff.2 (List.mem_range.2 hi)) (fun x hx => ⟨by simp, List.mem_range.1 (hp.mem_iff.1 hx)⟩) (by simp)).symm
/-- How many each family has so far. -/
def ctL (d : CoD) (out : List Nat) : List Int := (List.range 5).map (fun f => ((cntF (famE d) f out : Nat) : Int))
theorem ctL_len (d : CoD) (out : List Nat) : (ctL d out).length = 5 := by simp [ctL]
theorem ctL_at (d : CoD) (out : List Nat) {f : Nat} (hf : f < 5) : (ctL d out).getD f 0 = ((cntF (famE d) f out : Nat) : Int) := by
  unfold ctL
  rw [List.getD_eq_getElem?_getD, List.getElem?_map, List.getElem?_range hf]
  rfl
theorem ctL_nil (d : CoD) : ctL d [] = List.replicate 5 0 := rfl
theorem ctL_snoc (d : CoD) (out : List Nat) {i f : Nat} (h : famE d i = f) (hf : f < 5) : ctL d (out ++ [i]) = (ctL d out).set f (((cntF (famE d) f out : Nat) : Int) + 1) := by
  apply List.ext_getElem?
  intro j
  rw [List.getElem?_set, ctL_len]
  unfold ctL
  rw [List.getElem?_map, List.getElem?_map]
  by_cases hj : j < 5
  · rw [List.getElem?_range hj]
    simp only [Option.map_some]
    rw [cntF_snoc]
    by_cases hk : f = j
    · subst hk
      rw [if_pos rfl, if_pos hf, if_pos h]
      simp
    · rw [if_neg hk, if_neg (by omega)]
      simp
  · rw [List.getElem?_eq_none (l := List.range 5) (by simp; omega), if_neg (by omega)]
    rfl
theorem cntF_le_len (fam : Nat → Nat) (f : Nat) (l : List Nat) : cntF fam f l ≤ l.length := List.length_filter_le _ _
theorem room_cnt {d : CoD} (hd : CodeOk d) {out : List Nat} {f : Nat} (hf : f < 5) : 0 < roomF (famE d) (limE d) out f ↔ ((cntF (famE d) f out : Nat) : Int) < d.2.1.getD f 0 := by
  have h := (limE_eq hd hf).1
  unfold roomF
  omega
/-- The best elements in increasing order. -/
def bestL (d : CoD) (n : Nat) : List Int := (sortD (intL (chosF d n))).reverse

theorem make5 (w : World) : (Instr.makeSlice 24 (.int .i64 5) (.int .i64 5)).run Tryz.prog w = .ok (.slice (some ⟨w.heap.size, 0, none⟩) 5 5) (w.alloc (.cells #[.int .i64 0, .int .i64 0, .int .i64 0, .int .i64 0, .int .i64 0] 3)) := by
  obtain ⟨i0, hi, hz0, hz1, hz2⟩ := info_parts info_int
  have h := run_make (P := Tryz.prog) w 24 3 i0 _ Tryz.underlying24 hi hz0 .i64 .i64 5 5 (by omega) (by omega) (by rw [hz2]; omega) (by omega)
  rw [hz1] at h
  have e : madeCells (Value.int .i64 0).cells (Int.toNat 5 * 1) = #[.int .i64 0, .int .i64 0, .int .i64 0, .int .i64 0, .int .i64 0] := by
    apply Array.ext'
    show (madeCells #[Value.int .i64 0] 5).toList = _
    rw [made_zeroR]
    rfl
  rw [e] at h
  exact h
theorem own5 (w : World) (lo : Nat) (hlo : lo ≤ w.heap.size) : OwnI 3 (w.alloc (.cells #[.int .i64 0, .int .i64 0, .int .i64 0, .int .i64 0, .int .i64 0] 3)) lo (some ⟨w.heap.size, 0, none⟩) 5 5 (List.replicate 5 0) :=
  World.ownsRow_lit w #[.int .i64 0, .int .i64 0, .int .i64 0, .int .i64 0, .int .i64 0] 5 hlo (by unfold maxLen; omega) rfl
abbrev c5 : Array Value := #[.int .i64 0, .int .i64 0, .int .i64 0, .int .i64 0, .int .i64 0]
theorem litMake (d : CoD) (w : World) : OwnI 3 ((w.alloc (.cells #[] 3)).alloc (.cells c5 3)).drew w.heap.size (some ⟨w.heap.size, 0, none⟩) 0 0 (intL []) ∧ OwnI 3 ((w.alloc (.cells #[] 3)).alloc (.cells c5 3)).drew w.heap.size (some ⟨w.heap.size + 1, 0, none⟩) 5 5 (ctL d []) ∧ w.heap.size ≠ w.heap.size + 1 ∧ Ext w ((w.alloc (.cells #[] 3)).alloc (.cells c5 3)).drew := by
  have h := own5 (w.alloc (.cells #[] 3)) w.heap.size (by simp)
  rw [World.size_alloc] at h
  exact ⟨Own.alloc (Own.empty w 3 (Nat.le_refl _)) _, h, by omega, ((Ext.alloc w _).trans (Ext.alloc _ _)).trans (Ext.drew _)⟩
theorem makeLit (d : CoD) (w : World) : OwnI 3 ((w.alloc (.cells c5 3)).alloc (.cells #[] 3)).drew w.heap.size (some ⟨w.heap.size + 1, 0, none⟩) 0 0 (intL []) ∧ OwnI 3 ((w.alloc (.cells c5 3)).alloc (.cells #[] 3)).drew w.heap.size (some ⟨w.heap.size, 0, none⟩) 5 5 (ctL d []) ∧ w.heap.size + 1 ≠ w.heap.size ∧ Ext w ((w.alloc (.cells c5 3)).alloc (.cells #[] 3)).drew := by
  have h : OwnI 3 ((w.alloc (.cells c5 3)).alloc (.cells #[] 3)) w.heap.size (some ⟨(w.alloc (.cells c5 3)).heap.size, 0, none⟩) 0 0 (intL []) := Own.empty (w.alloc (.cells c5 3)) 3 (by simp)
  rw [World.size_alloc] at h
  exact ⟨h, Own.alloc (own5 w w.heap.size (Nat.le_refl _)) _, by omega, ((Ext.alloc w _).trans (Ext.alloc _ _)).trans (Ext.drew _)⟩
set_option maxRecDepth 100000 in
set_option maxHeartbeats 4000000 in
theorem i.bestNames_m (w : World) (v : Value) (d : CoD) (n : Nat) (h : kC.rd w v d) (hd : CodeOk d) (hn : n ≤ 14) :
    Calls Tryz.prog 31 #[v, .int .i64 n] w fun e w' => ∃ A' c', e = .returned (.slice A' (chosF d n).length c') ∧ OwnI 3 w' w.heap.size A' (chosF d n).length c' (bestL d n) ∧ Ext w w' := by
  obtain ⟨Ac, cc, Al, cl, rfl, hle, hll⟩ := kC.lr h
  obtain ⟨F, hF⟩ : ∃ F, Hid (chosF d n = F) := ⟨_, rfl⟩
  unfold bestL
  rw [hF.out]
  obtain ⟨nc, NC⟩ : ∃ z, Hid (d.1.length = z) := ⟨_, rfl⟩
  have l5 := hd.lim
  have h24 := hd.n2
  have h1 := hd.n1
  obtain ⟨r, RN⟩ : ∃ z, Hid (d.2.2.1 = z) := ⟨_, rfl⟩
  obtain ⟨b, BN⟩ : ∃ z, Hid (d.2.2.2.1 = z) := ⟨_, rfl⟩
  obtain ⟨p, PN⟩ : ∃ z, Hid (d.2.2.2.2.1 = z) := ⟨_, rfl⟩
  obtain ⟨f, FN⟩ : ∃ z, Hid (d.2.2.2.2.2 = z) := ⟨_, rfl⟩
  rw [NC.out, l5, RN.out, BN.out, PN.out, FN.out]
  have HL := hide hle
  have a1 := hle.1; have a2 := hle.2.1
  rw [NC.out] at a1 h24 h1
  have b1 := hll.1; have b2 := hll.2.1
  have SL := hide hll.sl
  rw [l5] at SL b1
  have HC := hide hd
  clear h hd hle hll l5
  obtain ⟨W0, hW0⟩ : ∃ W0, Hid (W0 = w.alloc (.cells #[.slice Ac nc cc, .slice Al 5 cl, .int .i64 r, .int .i64 b, .int .i64 p, .int .i64 f] 26)) := ⟨_, rfl⟩
  have X0 : Hid (Ext w W0) := by rw [hW0.out]; exact Ext.alloc w _
  have B0 : Hid (Blk W0 w.heap.size #[.slice Ac nc cc, .slice Al 5 cl, .int .i64 r, .int .i64 b, .int .i64 p, .int .i64 f] 26) := by rw [hW0.out]; exact Blk.new rfl _ _
  have II := hide (indices_m nc W0 (by omega))
  have SO := hide (fun (wq : World) (xq : Ext W0 wq) (g c : Nat) (o : OwnI 3 wq W0.heap.size (some ⟨g, 0, none⟩) nc c (intL (List.range nc))) (hg : W0.heap.size ≤ g) => sortNames_m W0 wq w.heap.size w.heap.size d B0.out NC.out (HL.out.ext X0.out (Nat.le_refl _)) X0.out.size HC.out xq g c W0.heap.size nc (List.range nc) o hg (fun i hi => List.mem_range.1 hi) List.pairwise_lt_range (by omega) (by omega))
  have c0 := B0.out.cell
  rw [hW0.out] at c0
  have z0 := X0.out.size
  have z1 := B0.out.lt
  go_enter Tryz.func31, Tryz.ntmps31
  go_wp2_with fail
  rw [← hW0.out]
  clear hW0 c0
  refine II.out.mono ?_
  rintro e w1 ⟨A1, c1, rfl, o1, x1⟩
  obtain ⟨g1, rfl, hg1, hg2, hg3⟩ := OwnI.pos o1 (by omega)
  have S1 := hide (SO.out w1 x1 g1 c1 o1 hg1)
  clear SO II o1 x1
  go_wp2_with fail
  refine S1.out.mono ?_
  rintro e w2 ⟨rfl, M, pM, tM, o2, x2, g2⟩
  have O2 := hide o2
  have X2 := hide x2
  have lM : Hid (M.length = nc) := by show _ = _; rw [pM.length_eq, List.length_range]
  rw [← NC.out] at pM
  have GA : Hid (grK d n M nc = F) := by show _ = _; rw [← lM.out, grK_all pM tM, hF.out]
  rw [NC.out] at pM
  have PM := hide pM
  have B2 := hide (B0.out.ext x2)
  have x2s : w1.heap.size ≤ w2.heap.size := g2.size
  clear pM tM o2 x2 S1 hF g2
  go_upto_region 3 with fail
  go_cut [6, 7] (fun s6 s7 wx => ∃ (g5 g7 c5 : Nat), s6 = .slice (some ⟨g5, 0, none⟩) 0 c5 ∧ s7 = .slice (some ⟨g7, 0, none⟩) 5 5 ∧ OwnI 3 wx w2.heap.size (some ⟨g5, 0, none⟩) 0 c5 (intL []) ∧ OwnI 3 wx w2.heap.size (some ⟨g7, 0, none⟩) 5 5 (ctL d []) ∧ g5 ≠ g7 ∧ Ext w2 wx)
  case first =>
    have mk := make5
    have LM := hide (litMake d w2)
    have ML := hide (makeLit d w2)
    go_region
    all_goals
      go_wp2
      go_meet
      first
      | exact ⟨w2.heap.size, w2.heap.size + 1, 0, rfl, rfl, LM.out⟩
      | exact ⟨w2.heap.size + 1, w2.heap.size, 0, rfl, rfl, ML.out⟩
  case rest =>
    obtain ⟨g5, g7, c0, rfl, rfl, o5, o7, hne, x3⟩ := hcut
    rename World => w3
    have O5 := hide o5
    have O7 := hide o7
    have X3 := hide x3
    have B3 := hide (B2.out.ext x3)
    have O3 := hide (OwnI.below O2.out x3 (Nat.le_refl _))
    have G0 : Hid ((grK d n M 0).length = 0) := rfl
    have E0 : Hid (Ext W0 w3) := X2.out.trans x3
    have g71 : w2.heap.size ≤ g7 := by
      rcases o7.form with ⟨q, _⟩ | ⟨g', q, q1, _, _⟩
      · cases q
      · injection q with q; injection q with q; omega
    have g51 : w2.heap.size ≤ g5 := by
      rcases o5.form with ⟨q, _⟩ | ⟨g', q, q1, _, _⟩
      · cases q
      · injection q with q; injection q with q; omega
    have g12 : g1 < w2.heap.size := by have := x2s; omega
    clear o5 o7 x3 O3 B3
    go_wp2
    go_loopw [6, 22] (fun s6 s22 wr => ∃ (k m g5 c5 : Nat), s22 = .int .i64 k ∧ s6 = .slice (some ⟨g5, 0, none⟩) m c5 ∧ k ≤ nc ∧ Hid ((grK d n M k).length = m) ∧ g5 ≠ g7 ∧ OwnI 3 wr w2.heap.size (some ⟨g5, 0, none⟩) m c5 (intL (grK d n M k)) ∧ OwnI 3 wr w2.heap.size (some ⟨g7, 0, none⟩) 5 5 (ctL d (grK d n M k)) ∧ Ext w2 wr) (fun _ s22 _ => nc - (intOf s22).toNat)
    case atStart => exact ⟨0, 0, g5, c0, rfl, rfl, Nat.zero_le _, rfl, hne, O5.out, O7.out, X3.out⟩
    case round =>
      clear hne O5 O7 X3 g51
      obtain ⟨k, m, g5, c5, rfl, rfl, hk, hm, hne, o5, o7, x3⟩ := hrel
      have O5 := hide o5
      have O7 := hide o7
      have HX := hide x3
      clear o5 o7 x3
      by_cases hlt : k < nc
      · have hltz : (k : Int) < (nc : Int) := by omega
        obtain ⟨P, hP⟩ : ∃ P, Hid (M[k]? = some P) := get_ex M k (by rw [lM.out]; exact hlt)
        have P1 : P < nc := List.mem_range.1 (PM.out.mem_iff.1 (List.mem_of_getElem? hP.out))
        obtain ⟨x, hxk⟩ : ∃ x, Hid (d.1[P]? = some x) := get_ex d.1 P (by rw [NC.out]; exact P1)
        have E1 := hide ((X0.out.trans X2.out).trans HX.out)
        obtain ⟨be, off, rfl, hbe, q0, q1, q2, q3, -⟩ := (HL.out.ext E1.out (Nat.le_refl _)).element P x hxk.out
        have eb := elB_ok (HC.out.els P x hxk.out)
        have FE0 := famE_eq hxk.out
        obtain ⟨fa, hfa⟩ : ∃ fa : Nat, x.2.1 = (fa : Int) := ⟨x.2.1.toNat, by omega⟩
        have f5 : fa < 5 := by omega
        have FE : Hid (famE d P = fa) := by show _ = _; rw [FE0, hfa, Int.toNat_natCast]
        rw [hfa] at q1
        have ck := HX.out.cell (p := ⟨g1, k, none⟩) g12
        rw [O2.out.cell k hlt] at ck
        have eM : (intL M).getD k 0 = (P : Int) := by unfold intL; rw [List.getD_eq_getElem?_getD, List.getElem?_map, hP.out]; rfl
        rw [eM] at ck
        have BB := hide (B2.out.ext HX.out)
        have cB := BB.out.cell
        have c7 := O7.out.cell fa f5
        rw [ctL_at d _ f5] at c7
        have rc := room_cnt HC.out (out := grK d n M k) f5
        rw [← FE.out] at rc
        have RC := hide rc
        rw [FE.out] at RC
        obtain ⟨bl, ol, rfl, hbl, hcl⟩ := SlI.cells (SL.out.ext E1.out (Nat.le_refl _)) (by omega)
        have cl1 := hcl fa f5
        have cb := cntF_le_len (famE d) fa (grK d n M k)
        have gl := grK_len (d := d) (n := n) (M := M) k (by rw [lM.out]; exact hk)
        rw [hm.out] at cb gl
        have lb := (limE_eq HC.out f5).2
        have YES := hide (fun (h1 : m < n) (h2 : ((cntF (famE d) fa (grK d n M k) : Nat) : Int) < d.2.1.getD fa 0) => grK_yes (d := d) (n := n) (M := M) (k := k) hP.out (by rw [hm.out]; exact h1) (by rw [FE.out]; exact RC.out.2 h2))
        have NO := hide (fun (h1 : ¬ (m < n ∧ ((cntF (famE d) fa (grK d n M k) : Nat) : Int) < d.2.1.getD fa 0)) => grK_no (d := d) (n := n) (M := M) (k := k) hP.out (by rw [hm.out, FE.out]; exact fun hh => h1 ⟨hh.1, RC.out.1 hh.2⟩))
        have SN := hide (ctL_snoc d (grK d n M k) FE.out f5)
        have EQ := hide (intL_snoc (grK d n M k) P)
        have cB_ := fun dd os => (BB.out.ext (ext_re wr dd os)).cell
        have c7_ := fun dd os => cell_regrown c7 dd os
        have cl_ := fun dd os => cell_regrown cl1 dd os
        clear hcl q0 q2 q3 eb hfa FE0 eM rc RC
        generalize hout : grK d n M k = out at *
        have HOUT := hide hout
        clear hout
        generalize hCe : cntF (famE d) fa out = C at *
        have HCE := hide hCe
        clear hCe
        generalize d.2.1.getD fa 0 = L at *
        have i1 : (P : Int) < nc := by omega
        have i2 : (fa : Int) < 5 := by omega
        obtain ⟨BV, hBV⟩ : ∃ BV : Bool, Hid ((decide (m < n) && decide ((C : Int) < L)) = BV) := ⟨_, rfl⟩
        go_upto_region 8 with fail
        clear ck q1 cB c7 cl1
        go_cut [47] (fun sb wx => sb = .bool BV ∧ Ext wr wx)
        case first =>
          by_cases h1 : m < n
          · have h1z : (m : Int) < (n : Int) := by omega
            by_cases h2 : (C : Int) < L
            · have BV1 : Hid (BV = true) := by show _ = _; rw [← hBV.out, decide_eq_true h1, decide_eq_true h2]; rfl
              refine wp_region_quiet_below (by kernel_rfl) (by kernel_rfl) ?_
              repeat (go_big_quiet_step (fail))
              refine wpQuiet_nil ?_
              intro _ hw'
              obtain ⟨⟨dq, osq⟩, hw''⟩ := hw'
              subst hw''
              go_wp2
              go_meet
              exact ⟨by rw [BV1.out], ext_re wr dq osq⟩
            · have BV1 : Hid (BV = false) := by show _ = _; rw [← hBV.out, decide_eq_false h2, Bool.and_false]
              refine wp_region_quiet_below (by kernel_rfl) (by kernel_rfl) ?_
              repeat (go_big_quiet_step (fail))
              refine wpQuiet_nil ?_
              intro _ hw'
              obtain ⟨⟨dq, osq⟩, hw''⟩ := hw'
              subst hw''
              go_wp2
              go_meet
              exact ⟨by rw [BV1.out], ext_re wr dq osq⟩
          · have h1z : ¬ (m : Int) < (n : Int) := by omega
            have BV1 : Hid (BV = false) := by show _ = _; rw [← hBV.out, decide_eq_false h1]; rfl
            refine wp_region_quiet_below (by kernel_rfl) (by kernel_rfl) ?_
            repeat (go_big_quiet_step (fail))
            refine wpQuiet_nil ?_
            intro _ hw'
            obtain ⟨⟨dq, osq⟩, hw''⟩ := hw'
            subst hw''
            go_wp2
            go_meet
            exact ⟨by rw [BV1.out], ext_re wr dq osq⟩
        case rest =>
          obtain ⟨rfl, xq⟩ := hcut
          rename World => w5
          clear cB_ c7_ cl_
          have O5w := hide (OwnI.below O5.out xq (Nat.le_refl _))
          have O7w := hide (OwnI.below O7.out xq (Nat.le_refl _))
          have HXw := hide (HX.out.trans xq)
          have l5w : Hid (∀ p, p < wr.heap.size → p < w5.heap.size) := fun p hp => Nat.lt_of_lt_of_le hp xq.size
          have g7w : g7 < wr.heap.size := by
            rcases O7.out.form with ⟨q, _⟩ | ⟨g', q, _, q2, _⟩
            · cases q
            · injection q with q; injection q with q; omega
          have g7v := l5w.out _ g7w
          clear xq O5 O7 HX
          cases BV with
          | false =>
            have hb := hBV.out
            have NN := hide (NO.out (by simpa using hb))
            clear YES NO hb hBV
            go_wp2
            go_roundw
            case rel => exact ⟨k + 1, m, g5, c5, by go_num, rfl, by omega, by show _ = _; rw [NN.out]; exact hm.out, hne, by rw [NN.out]; exact O5w.out, by rw [NN.out]; exact O7w.out, HXw.out⟩
            case measure => simp [intOf]; omega
          | true =>
            have hb := hBV.out
            simp only [Bool.and_eq_true, decide_eq_true_eq] at hb
            have hmn := hb.1
            have NN := hide (YES.out hb.1 hb.2)
            clear YES NO hb hBV
            have cap := O5w.out.capn
            have c2w := HXw.out.size
            obtain ⟨IL, hIL⟩ : ∃ IL, Hid (intL out = IL) := ⟨_, rfl⟩
            rw [hIL.out] at O5w EQ
            go_wp2_with (at_builtin; refine wpList_append_sl rfl (.tmp 48) (.tmp 50) rfl elem_int rfl rfl (lo := w2.heap.size) (Own.alloc O5w.out (.cells #[.int .i64 P] 3)) (Sl.one w5 (.int .i64 P) 3) (one_int _) ?c1 ?c2 ?c3 ?_)
            case c1 => omega
            case c2 => omega
            case c3 => simp; omega
            intro A9 c9 w9 hap
            have XE := hide (hap.ext (HXw.out.trans (Ext.alloc w5 _)) (Own.fromLo O5w.out))
            have O9 : Hid (OwnI 3 w9 w2.heap.size A9 (m + 1) c9 (intL (out ++ [P]))) := own_conv hap.own (Nat.le_refl _) rfl EQ.out
            obtain ⟨g9, rfl, hg9, hg9', -⟩ := OwnI.pos O9.out (by omega)
            have n97 : g9 ≠ g7 := by
              have h := hap.where_
              simp only [Option.map_some, Option.some.injEq, World.size_alloc] at h
              rcases h with h | h <;> omega
            have O7a : Hid (OwnI 3 w9 w2.heap.size (some ⟨g7, 0, none⟩) 5 5 (ctL d out)) := Own.keepBlk (Own.alloc O7w.out (.cells #[.int .i64 P] 3)) (fun p hp => by
              injection hp with hp
              subst hp
              refine hap.grew.block g7 (by simp; omega) ?_
              intro hh
              simp at hh
              exact hne hh.symm)
            have c7a := O7a.out.cell fa f5
            rw [ctL_at d _ f5, HCE.out] at c7a
            have f7a := O7a.out.free fa
            have O7n : Hid (OwnI 3 (w9.setCell ⟨g7, fa, none⟩ (.int .i64 ((C : Int) + 1))) w2.heap.size (some ⟨g7, 0, none⟩) 5 5 (ctL d (out ++ [P]))) := by
              rw [SN.out]
              exact OwnI.set O7a.out fa _
            have O9n : Hid (OwnI 3 (w9.setCell ⟨g7, fa, none⟩ (.int .i64 ((C : Int) + 1))) w2.heap.size (some ⟨g9, 0, none⟩) (m + 1) c9 (intL (out ++ [P]))) := Own.far O9.out (fun a ha => by injection ha with ha; subst ha; exact n97) _
            have XEn : Hid (Ext w2 (w9.setCell ⟨g7, fa, none⟩ (.int .i64 ((C : Int) + 1)))) := Below.setCell XE.out (by show _ ≤ g7; omega) _
            clear hap O9 O7a XE
            go_wp2
            clear c7a f7a
            generalize w9.setCell ⟨g7, fa, none⟩ (.int .i64 ((C : Int) + 1)) = w6 at *
            go_roundw
            case rel => exact ⟨k + 1, m + 1, g9, c9, by go_num, rfl, by omega, by show _ = _; rw [NN.out, List.length_append, hm.out]; rfl, n97, by rw [NN.out]; exact O9n.out, by rw [NN.out]; exact O7n.out, XEn.out⟩
            case measure => simp [intOf]; omega
      · have hltz : ¬ (k : Int) < (nc : Int) := by omega
        have ek : k = nc := by omega
        subst ek
        rw [GA.out] at O5 hm
        have hm' := hm.out
        have gl := grK_len (d := d) (n := n) (M := M) k (by rw [lM.out]; exact hk)
        rw [GA.out] at gl
        subst hm'
        have E1 := hide ((X0.out.trans X2.out).trans HX.out)
        have zz := (X0.out.trans X2.out).size
        have SC := hide (sortOwn_any g5 c5 w2.heap.size F.length (intL F) wr O5.out (by omega))
        go_wp2_with (go_at_call 40; refine SC.out.mono ?_; rintro e w' ⟨rfl, o6, gr⟩)
        go_ret
        have g51 : w2.heap.size ≤ g5 := by
          rcases O5.out.form with ⟨q, _⟩ | ⟨g', q, q1, _, _⟩
          · cases q
          · injection q with q; injection q with q; omega
        exact ⟨_, _, rfl, OwnI.lower o6 zz, E1.out.grown gr E1.out.size (by simp; omega)⟩
end Go.Proofs.YtegoapdbpfhkiaaGreat

/- A number put into an increasing list by the reference. -/
namespace Go.Proofs.YtegoapdbpfhkiaaGreat
open Go.RowKit Go.Sort
set_option linter.unusedVariables false

def ltN (zs : List Int) (x : Int) : Nat := (zs.takeWhile (fun z => decide (z < x))).length
theorem ltN_le : ∀ (zs : List Int) (x : Int), ltN zs x ≤ zs.length
  | [], x => Nat.le_refl _
  | z :: t, x => by
    unfold ltN
    rw [List.takeWhile_cons]
    split
    · have := ltN_le t x; unfold ltN at this; simp only [List.length_cons]; omega
    · simp
theorem ltN_lt : ∀ (zs : List Int) (x : Int) (k : Nat), k < ltN zs x → zs.getD k 0 < x
  | [], x, k, h => by simp [ltN] at h
  | z :: t, x, k, h => by
    unfold ltN at h
    rw [List.takeWhile_cons] at h
    split at h
    · rename_i hz
      cases k with
      | zero => simpa using hz
      | succ k => exact ltN_lt t x k (by unfold ltN; simp only [List.length_cons] at h; omega)
    · simp at h
theorem ltN_ge : ∀ (zs : List Int) (x : Int), ltN zs x < zs.length → ¬ zs.getD (ltN zs x) 0 < x
  | [], x, h => by simp [ltN] at h
  | z :: t, x, h => by
    unfold ltN at h ⊢
    rw [List.takeWhile_cons] at h ⊢
    by_cases hz : z < x
    · rw [if_pos (by simpa using hz)] at h ⊢
      exact ltN_ge t x (by unfold ltN; simp only [List.length_cons] at h; omega)
    · rw [if_neg (by simpa using hz)]
      simpa using hz
def putL (zs : List Int) (x : Int) : List Int := zs.take (ltN zs x) ++ x :: zs.drop (ltN zs x)
theorem putL_len (zs : List Int) (x : Int) : (putL zs x).length = zs.length + 1 := by
  unfold putL
  have := ltN_le zs x
  simp only [List.length_append, List.length_take, List.length_cons, List.length_drop]
  omega
theorem putL_perm (zs : List Int) (x : Int) : (putL zs x).Perm (x :: zs) := by
  have h := List.perm_middle (a := x) (l₁ := zs.take (ltN zs x)) (l₂ := zs.drop (ltN zs x))
  rw [List.take_append_drop] at h
  exact h
theorem putL_sorted {zs : List Int} (x : Int) (h : zs.Pairwise (· ≤ ·)) : (putL zs x).Pairwise (· ≤ ·) := by
  have h2 := h
  rw [← List.take_append_drop (ltN zs x) zs, List.pairwise_append] at h2
  unfold putL
  have a1 : ∀ y ∈ zs.take (ltN zs x), y ≤ x := fun y hy => by
    obtain ⟨i, hi, rfl⟩ := List.getElem_of_mem hy
    rw [List.length_take] at hi
    have := ltN_lt zs x i (by omega)
    rw [List.getD_eq_getElem?_getD, List.getElem?_eq_getElem (by omega)] at this
    rw [List.getElem_take]
    exact Int.le_of_lt this
  have a2 : ∀ y ∈ zs.drop (ltN zs x), x ≤ y := fun y hy => by
    obtain ⟨i, hi, rfl⟩ := List.getElem_of_mem hy
    rw [List.length_drop] at hi
    have h3 := ltN_ge zs x (by omega)
    rw [List.getD_eq_getElem?_getD, List.getElem?_eq_getElem (by omega)] at h3
    rw [List.getElem_drop]
    have h4 : i = 0 ∨ zs[ltN zs x]'(by omega) ≤ zs[ltN zs x + i]'(by omega) := by
      by_cases e : i = 0
      · exact .inl e
      · exact .inr (List.pairwise_iff_getElem.1 h _ _ (by omega) (by omega) (by omega))
    rcases h4 with e | e
    · subst e; exact Int.not_lt.1 h3
    · exact Int.le_trans (Int.not_lt.1 h3) e
  rw [List.pairwise_append, List.pairwise_cons]
  refine ⟨h2.1, ⟨a2, h2.2.1⟩, fun y hy z hz => ?_⟩
  rcases List.mem_cons.1 hz with e | e
  · subst e; exact a1 y hy
  · exact h2.2.2 y hy z e
def putsL (zs : List Int) : List Int := zs.foldl putL []
theorem putsL_snoc (zs : List Int) (x : Int) : putsL (zs ++ [x]) = putL (putsL zs) x := by unfold putsL; rw [List.foldl_append]; rfl
theorem putsL_spec (zs : List Int) : (putsL zs).Perm zs ∧ (putsL zs).Pairwise (· ≤ ·) := by
  have : ∀ (zs out : List Int), out.Pairwise (· ≤ ·) → (zs.foldl putL out).Perm (out ++ zs) ∧ (zs.foldl putL out).Pairwise (· ≤ ·) := by
    intro zs
    induction zs with
    | nil => intro out h; exact ⟨by simp, h⟩
    | cons x t ih =>
      intro out h
      obtain ⟨p, s⟩ := ih (putL out x) (putL_sorted x h)
      refine ⟨p.trans ?_, s⟩
      refine (List.Perm.append_right t (putL_perm out x)).trans ?_
      exact List.perm_middle.symm
  have h := this zs [] List.Pairwise.nil
  rw [List.nil_append] at h
  exact h
theorem putsL_eq (zs : List Int) : putsL zs = (sortD zs).reverse := by
  have h1 := putsL_spec zs
  have h2 : (sortD zs).reverse.Pairwise (fun x y => x ≤ y) := by
    rw [List.pairwise_reverse]
    exact (sortD_sorted zs).imp (by simp)
  have h3 : (putsL zs).Perm (sortD zs).reverse := h1.1.trans ((sortD_perm zs).symm.trans (List.reverse_perm _).symm)
  exact h3.eq_of_pairwise (fun a b _ _ h1 h2 => by omega) h1.2 h2

set_option maxRecDepth 100000 in
set_option maxHeartbeats 2000000 in
theorem s.l1Put_m (A : Option Addr) (n c lo : Nat) (zs : List Int) (x : Int) (w : World) (h : OwnI 3 w lo A n c zs) (hn : n ≤ 1048576) (hx : x ∉ zs) :
    Calls Tryz.prog 67 #[.slice A n c, .int .i64 x] w fun e w' => ∃ A' c', e = .returned (.slice A' (n + 1) c') ∧ OwnI 3 w' w.heap.size A' (n + 1) c' (putL zs x) ∧ Ext w w' := by
  have hl := hide h.len
  have cap := h.capn; have capm := h.capm
  have HS := hide h.sl
  have L1 := hide (ltN_lt zs x)
  have L2 := hide (ltN_ge zs x)
  have L3 := ltN_le zs x
  have NE : Hid (∀ k, k < n → zs.getD k 0 ≠ x) := fun k hk e => hx (by
    have hk' : k < zs.length := by have := hl.out; omega
    rw [List.getD_eq_getElem?_getD, List.getElem?_eq_getElem hk'] at e
    exact e ▸ List.getElem_mem hk')
  have PE : Hid (putL zs x = (zs.take (ltN zs x) ++ [x]) ++ zs.drop (ltN zs x)) := by show _ = _; unfold putL; simp
  rw [hl.out] at L3
  generalize hq : ltN zs x = q at *
  have L2' : Hid (q < n → ¬ zs.getD q 0 < x) := fun hh => L2.out (by have := hl.out; omega)
  clear h hx hq L2
  go_enter Tryz.func67, Tryz.ntmps67
  go_wp2
  go_loop [5] (fun s5 => ∃ k : Nat, s5 = .int .i64 k ∧ k ≤ q) (fun s5 => q - (intOf s5).toNat)
  case atStart => exact ⟨0, by go_num, Nat.zero_le _⟩
  case round =>
    obtain ⟨k, rfl, hk⟩ := hrel
    by_cases hlt : k < q
    · obtain ⟨b, off, rfl, hb, hc⟩ := HS.out.cells (by omega)
      have ck := hc k (by omega)
      have lt := L1.out k hlt
      have i1 : (k : Int) < (n : Int) := by omega
      clear hc
      generalize zs.getD k 0 = y at *
      go_wp2
      go_round
      case rel => exact ⟨k + 1, by go_num, by omega⟩
      case measure => simp [intOf]; omega
    · have e : k = q := by omega
      subst e
      clear L1
      rcases Nat.eq_zero_or_pos k with h0 | h0
      · subst h0
        have TK : Hid (SlI w w.heap.size A 0 (zs.take 0)) := Sl.nil
        have SD : Hid (SlI w w.heap.size A n (zs.drop 0)) := HS.out
        by_cases hkn : 0 < n
        · obtain ⟨b, off, rfl, hb, hc⟩ := HS.out.cells (by omega)
          have ck := hc 0 hkn
          rw [Nat.add_zero] at ck
          have ge := L2'.out hkn
          have ne := NE.out 0 hkn
          have i1 : (0 : Int) < (n : Int) := by omega
          clear hc
          generalize zs.getD 0 0 = y at *
          have hge : ¬ y < x := Int.not_lt.2 ge
          have hne : (y == x) = false := by simpa using ne
          go_wp2_with (at_builtin; refine wpList_append_sl rfl (.tmp 34) (.tmp 37) rfl elem_int rfl rfl (lo := w.heap.size) (Own.empty w 3 (Nat.le_refl _)) (SlI.alloc TK.out (Nat.le_refl _) _) (oneCell_ints _) (by omega) (by omega) (by first | omega | (simp; done) | (simp; omega)) ?_)
          intro A1 c1 w1 hap1
          have X1 := hide (hap1.ext (Ext.alloc w _) (fun p hp => by injection hp with hp; subst hp; exact Nat.le_refl _))
          have O1 : Hid (OwnI 3 w1 w.heap.size A1 0 c1 (zs.take 0)) := own_conv hap1.own (Nat.le_refl _) (by omega) (by first | (simp; done) | (simp [List.map_take]; done))
          clear hap1
          have s1 := X1.out.size
          have SD1 := hide (Sl.ext' SD.out X1.out)
          go_wp2_with (at_builtin; refine wpList_append_sl rfl (.tmp 39) (.tmp 41) rfl elem_int rfl rfl (lo := w.heap.size) (Own.alloc O1.out (.cells #[.int .i64 x] 3)) (Sl.one w1 (.int .i64 x) 3) (one_int _) (by omega) (by omega) (by first | omega | (simp; done) | (simp; omega)) ?_)
          intro A2 c2 w2 hap2
          have X2 := hide (hap2.ext (X1.out.trans (Ext.alloc w1 _)) (Own.fromLo O1.out))
          have O2 : Hid (OwnI 3 w2 w.heap.size A2 (0 + 1) c2 ((zs.take 0) ++ [x])) := own_conv hap2.own (Nat.le_refl _) rfl (by first | (simp; done) | (simp [List.map_take]; done))
          clear hap2
          have s2 := X2.out.size
          have SD2 := hide (Sl.ext' SD.out X2.out)
          go_wp2_with (at_builtin; refine wpList_append_sl rfl (.tmp 43) (.tmp 46) rfl elem_int rfl rfl (lo := w.heap.size) O2.out SD2.out (oneCell_ints _) (by omega) (by omega) (by first | omega | (simp; done) | (simp; omega)) ?_)
          intro A3 c3 w3 hap3
          have X3 := hide (hap3.ext X2.out (Own.fromLo O2.out))
          have O3 : Hid (OwnI 3 w3 w.heap.size A3 (n + 1) c3 (putL zs x)) := own_conv hap3.own (Nat.le_refl _) (by omega) (by rw [PE.out]; first | (simp; done) | (simp [List.map_drop]; done) | (simp [List.map_take]; done) | (simp [List.map_take, List.map_drop]; done))
          clear hap3
          go_wp2
          go_ret
          exact ⟨A3, c3, congrArg (fun m => Ending.returned (Value.slice A3 m c3)) (by omega), O3.out, X3.out⟩
        · have n0 : n = 0 := by omega
          subst n0
          go_wp2_with (at_builtin; refine wpList_append_sl rfl (.tmp 34) (.tmp 37) rfl elem_int rfl rfl (lo := w.heap.size) (Own.empty w 3 (Nat.le_refl _)) (SlI.alloc TK.out (Nat.le_refl _) _) (oneCell_ints _) (by omega) (by omega) (by first | omega | (simp; done) | (simp; omega)) ?_)
          intro A1 c1 w1 hap1
          have X1 := hide (hap1.ext (Ext.alloc w _) (fun p hp => by injection hp with hp; subst hp; exact Nat.le_refl _))
          have O1 : Hid (OwnI 3 w1 w.heap.size A1 0 c1 (zs.take 0)) := own_conv hap1.own (Nat.le_refl _) (by omega) (by first | (simp; done) | (simp [List.map_take]; done))
          clear hap1
          have s1 := X1.out.size
          have SD1 := hide (Sl.ext' SD.out X1.out)
          go_wp2_with (at_builtin; refine wpList_append_sl rfl (.tmp 39) (.tmp 41) rfl elem_int rfl rfl (lo := w.heap.size) (Own.alloc O1.out (.cells #[.int .i64 x] 3)) (Sl.one w1 (.int .i64 x) 3) (one_int _) (by omega) (by omega) (by first | omega | (simp; done) | (simp; omega)) ?_)
          intro A2 c2 w2 hap2
          have X2 := hide (hap2.ext (X1.out.trans (Ext.alloc w1 _)) (Own.fromLo O1.out))
          have O2 : Hid (OwnI 3 w2 w.heap.size A2 (0 + 1) c2 ((zs.take 0) ++ [x])) := own_conv hap2.own (Nat.le_refl _) rfl (by first | (simp; done) | (simp [List.map_take]; done))
          clear hap2
          have s2 := X2.out.size
          have SD2 := hide (Sl.ext' SD.out X2.out)
          go_wp2_with (at_builtin; refine wpList_append_sl rfl (.tmp 43) (.tmp 46) rfl elem_int rfl rfl (lo := w.heap.size) O2.out SD2.out (oneCell_ints _) (by omega) (by omega) (by first | omega | (simp; done) | (simp; omega)) ?_)
          intro A3 c3 w3 hap3
          have X3 := hide (hap3.ext X2.out (Own.fromLo O2.out))
          have O3 : Hid (OwnI 3 w3 w.heap.size A3 (0 + 1) c3 (putL zs x)) := own_conv hap3.own (Nat.le_refl _) (by omega) (by rw [PE.out]; first | (simp; done) | (simp [List.map_drop]; done) | (simp [List.map_take]; done) | (simp [List.map_take, List.map_drop]; done))
          clear hap3
          go_wp2
          go_ret
          exact ⟨A3, c3, congrArg (fun m => Ending.returned (Value.slice A3 m c3)) (by omega), O3.out, X3.out⟩
      · have TK : Hid (SlI w w.heap.size A k (zs.take k)) := by
          have h2 := Sl.cutTo (k := k) HS.out (by omega)
          rw [← List.map_take] at h2
          exact h2
        obtain ⟨b, off, rfl, hb, hc⟩ := HS.out.cells (by omega)
        have q1 : (k : Int) ≤ n := by omega
        have q2 : (k : Int) ≤ c := by omega
        have SD : Hid (Sl w w.heap.size (if c = k then some ⟨b, off, none⟩ else some ⟨b, off + k, none⟩) (n - k) ((zs.drop k).map (Value.int .i64))) := by
          show Sl _ _ _ _ _
          rw [List.map_drop]
          exact Sl.cutFrom HS.out (by omega) (fun h => by rw [if_neg (by omega)])
        by_cases hkn : k < n
        · have ck := hc k hkn
          have ge := L2'.out hkn
          have ne := NE.out k hkn
          have i1 : (k : Int) < (n : Int) := by omega
          have hcc : ¬ c = k := by omega
          rw [if_neg hcc] at SD
          clear hc
          generalize zs.getD k 0 = y at *
          have hge : ¬ y < x := Int.not_lt.2 ge
          have hne : (y == x) = false := by simpa using ne
          go_wp2_with (at_builtin; refine wpList_append_sl rfl (.tmp 34) (.tmp 37) rfl elem_int rfl rfl (lo := w.heap.size) (Own.empty w 3 (Nat.le_refl _)) (SlI.alloc TK.out (Nat.le_refl _) _) (oneCell_ints _) (by omega) (by omega) (by first | omega | (simp; done) | (simp; omega)) ?_)
          intro A1 c1 w1 hap1
          have X1 := hide (hap1.ext (Ext.alloc w _) (fun p hp => by injection hp with hp; subst hp; exact Nat.le_refl _))
          have O1 : Hid (OwnI 3 w1 w.heap.size A1 k c1 (zs.take k)) := own_conv hap1.own (Nat.le_refl _) (by omega) (by first | (simp; done) | (simp [List.map_take]; done))
          clear hap1
          have s1 := X1.out.size
          have SD1 := hide (Sl.ext' SD.out X1.out)
          go_wp2_with (at_builtin; refine wpList_append_sl rfl (.tmp 39) (.tmp 41) rfl elem_int rfl rfl (lo := w.heap.size) (Own.alloc O1.out (.cells #[.int .i64 x] 3)) (Sl.one w1 (.int .i64 x) 3) (one_int _) (by omega) (by omega) (by first | omega | (simp; done) | (simp; omega)) ?_)
          intro A2 c2 w2 hap2
          have X2 := hide (hap2.ext (X1.out.trans (Ext.alloc w1 _)) (Own.fromLo O1.out))
          have O2 : Hid (OwnI 3 w2 w.heap.size A2 (k + 1) c2 ((zs.take k) ++ [x])) := own_conv hap2.own (Nat.le_refl _) rfl (by first | (simp; done) | (simp [List.map_take]; done))
          clear hap2
          have s2 := X2.out.size
          have SD2 := hide (Sl.ext' SD.out X2.out)
          go_wp2_with (at_builtin; refine wpList_append_sl rfl (.tmp 43) (.tmp 46) rfl elem_int rfl rfl (lo := w.heap.size) O2.out SD2.out (oneCell_ints _) (by omega) (by omega) (by first | omega | (simp; done) | (simp; omega)) ?_)
          intro A3 c3 w3 hap3
          have X3 := hide (hap3.ext X2.out (Own.fromLo O2.out))
          have O3 : Hid (OwnI 3 w3 w.heap.size A3 (n + 1) c3 (putL zs x)) := own_conv hap3.own (Nat.le_refl _) (by omega) (by rw [PE.out]; first | (simp; done) | (simp [List.map_drop]; done) | (simp [List.map_take]; done) | (simp [List.map_take, List.map_drop]; done))
          clear hap3
          go_wp2
          go_ret
          exact ⟨A3, c3, congrArg (fun m => Ending.returned (Value.slice A3 m c3)) (by omega), O3.out, X3.out⟩
        · have n0 : n = k := by omega
          subst n0
          clear hc
          by_cases hcc : c = n
          · rw [if_pos hcc, Nat.sub_self] at SD
            go_wp2_with (at_builtin; refine wpList_append_sl rfl (.tmp 34) (.tmp 37) rfl elem_int rfl rfl (lo := w.heap.size) (Own.empty w 3 (Nat.le_refl _)) (SlI.alloc TK.out (Nat.le_refl _) _) (oneCell_ints _) (by omega) (by omega) (by first | omega | (simp; done) | (simp; omega)) ?_)
            intro A1 c1 w1 hap1
            have X1 := hide (hap1.ext (Ext.alloc w _) (fun p hp => by injection hp with hp; subst hp; exact Nat.le_refl _))
            have O1 : Hid (OwnI 3 w1 w.heap.size A1 n c1 (zs.take n)) := own_conv hap1.own (Nat.le_refl _) (by omega) (by first | (simp; done) | (simp [List.map_take]; done))
            clear hap1
            have s1 := X1.out.size
            have SD1 := hide (Sl.ext' SD.out X1.out)
            go_wp2_with (at_builtin; refine wpList_append_sl rfl (.tmp 39) (.tmp 41) rfl elem_int rfl rfl (lo := w.heap.size) (Own.alloc O1.out (.cells #[.int .i64 x] 3)) (Sl.one w1 (.int .i64 x) 3) (one_int _) (by omega) (by omega) (by first | omega | (simp; done) | (simp; omega)) ?_)
            intro A2 c2 w2 hap2
            have X2 := hide (hap2.ext (X1.out.trans (Ext.alloc w1 _)) (Own.fromLo O1.out))
            have O2 : Hid (OwnI 3 w2 w.heap.size A2 (n + 1) c2 ((zs.take n) ++ [x])) := own_conv hap2.own (Nat.le_refl _) rfl (by first | (simp; done) | (simp [List.map_take]; done))
            clear hap2
            have s2 := X2.out.size
            have SD2 := hide (Sl.ext' SD.out X2.out)
            go_wp2_with (at_builtin; refine wpList_append_sl rfl (.tmp 43) (.tmp 46) rfl elem_int rfl rfl (lo := w.heap.size) O2.out SD2.out (oneCell_ints _) (by omega) (by omega) (by first | omega | (simp; done) | (simp; omega)) ?_)
            intro A3 c3 w3 hap3
            have X3 := hide (hap3.ext X2.out (Own.fromLo O2.out))
            have O3 : Hid (OwnI 3 w3 w.heap.size A3 (n + 1) c3 (putL zs x)) := own_conv hap3.own (Nat.le_refl _) (by omega) (by rw [PE.out]; first | (simp; done) | (simp [List.map_drop]; done) | (simp [List.map_take]; done) | (simp [List.map_take, List.map_drop]; done))
            clear hap3
            go_wp2
            go_ret
            exact ⟨A3, c3, congrArg (fun m => Ending.returned (Value.slice A3 m c3)) (by omega), O3.out, X3.out⟩
          · rw [if_neg hcc, Nat.sub_self] at SD
            go_wp2_with (at_builtin; refine wpList_append_sl rfl (.tmp 34) (.tmp 37) rfl elem_int rfl rfl (lo := w.heap.size) (Own.empty w 3 (Nat.le_refl _)) (SlI.alloc TK.out (Nat.le_refl _) _) (oneCell_ints _) (by omega) (by omega) (by first | omega | (simp; done) | (simp; omega)) ?_)
            intro A1 c1 w1 hap1
            have X1 := hide (hap1.ext (Ext.alloc w _) (fun p hp => by injection hp with hp; subst hp; exact Nat.le_refl _))
            have O1 : Hid (OwnI 3 w1 w.heap.size A1 n c1 (zs.take n)) := own_conv hap1.own (Nat.le_refl _) (by omega) (by first | (simp; done) | (simp [List.map_take]; done))
            clear hap1
            have s1 := X1.out.size
            have SD1 := hide (Sl.ext' SD.out X1.out)
            go_wp2_with (at_builtin; refine wpList_append_sl rfl (.tmp 39) (.tmp 41) rfl elem_int rfl rfl (lo := w.heap.size) (Own.alloc O1.out (.cells #[.int .i64 x] 3)) (Sl.one w1 (.int .i64 x) 3) (one_int _) (by omega) (by omega) (by first | omega | (simp; done) | (simp; omega)) ?_)
            intro A2 c2 w2 hap2
            have X2 := hide (hap2.ext (X1.out.trans (Ext.alloc w1 _)) (Own.fromLo O1.out))
            have O2 : Hid (OwnI 3 w2 w.heap.size A2 (n + 1) c2 ((zs.take n) ++ [x])) := own_conv hap2.own (Nat.le_refl _) rfl (by first | (simp; done) | (simp [List.map_take]; done))
            clear hap2
            have s2 := X2.out.size
            have SD2 := hide (Sl.ext' SD.out X2.out)
            go_wp2_with (at_builtin; refine wpList_append_sl rfl (.tmp 43) (.tmp 46) rfl elem_int rfl rfl (lo := w.heap.size) O2.out SD2.out (oneCell_ints _) (by omega) (by omega) (by first | omega | (simp; done) | (simp; omega)) ?_)
            intro A3 c3 w3 hap3
            have X3 := hide (hap3.ext X2.out (Own.fromLo O2.out))
            have O3 : Hid (OwnI 3 w3 w.heap.size A3 (n + 1) c3 (putL zs x)) := own_conv hap3.own (Nat.le_refl _) (by omega) (by rw [PE.out]; first | (simp; done) | (simp [List.map_drop]; done) | (simp [List.map_take]; done) | (simp [List.map_take, List.map_drop]; done))
            clear hap3
            go_wp2
            go_ret
            exact ⟨A3, c3, congrArg (fun m => Ending.returned (Value.slice A3 m c3)) (by omega), O3.out, X3.out⟩
end Go.Proofs.YtegoapdbpfhkiaaGreat

/- The best names: the law's two sides. -/
namespace Go.Proofs.YtegoapdbpfhkiaaGreat
open Go.RowKit Go.Sort
set_option linter.unusedVariables false

theorem choosF_ok {fam lim : Nat → Nat} {base : Nat → Int} {N n : Nat} : ∀ (q : Nat) (out : List Nat), ChOk fam lim N n out → ChOk fam lim N n (choosF fam lim base N n q out)
  | 0, out, h => h
  | q + 1, out, h => by
    unfold choosF
    split
    · rename_i hl
      split
      · exact h
      · rename_i hp
        rcases pickF_or fam lim base out N with h1 | ⟨i, h1, h2, h3, h4⟩
        · omega
        · rw [h2, Int.toNat_natCast]
          exact choosF_ok q _ (h.next h1 h3 h4 hl)
    · exact h
theorem chosF_ok (d : CoD) (n : Nat) : ChOk (famE d) (limE d) d.1.length n (chosF d n) := choosF_ok n [] ⟨List.nodup_nil, by simp, fun f => by simp [cntF], by simp⟩
def bestF (d : CoD) (n : Int) : List Int × Bool := if askB d n = true ∧ n ≤ ((chosF d n.toNat).length : Nat) then (bestL d n.toNat, true) else ([], false)
theorem bestL_len (d : CoD) (n : Nat) : (bestL d n).length = (chosF d n).length := by unfold bestL; rw [List.length_reverse, sortD_len, intL_len]
theorem bestF_len (d : CoD) (n : Int) : (bestF d n).1.length ≤ 1048576 := by
  unfold bestF
  split
  · rename_i h
    have h1 := (chosF_ok d n.toNat).len
    have h2 := h.1
    unfold askB at h2
    rw [Bool.and_eq_true] at h2
    have := inB_ok h2.2
    show (bestL d n.toNat).length ≤ _
    rw [bestL_len]
    omega
  · exact Nat.zero_le _

set_option maxRecDepth 100000 in
set_option maxHeartbeats 2000000 in
theorem s.pnNames_m (w : World) (v : Value) (d : CoD) (n : Int) (h : kC.rd w v d) (hok : kC.ok d) :
    Calls Tryz.prog 32 #[v, .int .i64 n] w fun e w' => ∃ A' c', e = .returned (.tuple #[.slice A' (bestF d n).1.length c', .bool (bestF d n).2]) ∧ OwnI 3 w' w.heap.size A' (bestF d n).1.length c' (bestF d n).1 ∧ Ext w w' := by
  obtain ⟨Ac, nc, cc, Al, nl, cl, r, b, p, f, rfl⟩ := kC.shape h
  obtain ⟨W0, hW0⟩ : ∃ W0, Hid (W0 = w.alloc (.cells #[.slice Ac nc cc, .slice Al nl cl, .int .i64 r, .int .i64 b, .int .i64 p, .int .i64 f] 26)) := ⟨_, rfl⟩
  have X0 : Hid (Ext w W0) := by rw [hW0.out]; exact Ext.alloc w _
  have B0 : Hid (Blk W0 w.heap.size #[.slice Ac nc cc, .slice Al nl cl, .int .i64 r, .int .i64 b, .int .i64 p, .int .i64 f] 26) := by rw [hW0.out]; exact Blk.new rfl _ _
  have CQ := hide (s.pnAsked_m W0 _ d n (kC.rd_ext h X0.out) hok)
  have CH := hide (fun (wq : World) (xq : Ext w wq) (m : Nat) (hd : CodeOk d) (hm : m ≤ 14) => s.pnChoose_m wq _ d m (kC.rd_ext h xq) hd hm)
  obtain ⟨F, hF⟩ : ∃ F, Hid (bestF d n = F) := ⟨_, rfl⟩
  rw [hF.out]
  clear h hok
  go_enter Tryz.func32, Tryz.ntmps32
  go_wp2_with fail
  rw [← hW0.out]
  clear hW0
  refine CQ.out.mono ?_
  rintro e w1 ⟨rfl, x1⟩
  have X1 := hide (X0.out.trans x1)
  have B1 := hide (B0.out.ext x1)
  clear x1 CQ X0 B0
  cases hc : askB d n
  · have HF : Hid (F = ([], false)) := by show _ = _; rw [← hF.out]; unfold bestF; rw [if_neg (by rw [hc]; simp)]
    clear hc
    go_wp2
    go_ret2
    rw [HF.out]
    exact ⟨none, 0, rfl, OwnI.nil, X1.out⟩
  have hc2 := hc
  unfold askB at hc2
  rw [Bool.and_eq_true] at hc2
  have HC := hide (codeB_ok hc2.1)
  have hb := inB_ok hc2.2
  obtain ⟨m, rfl⟩ : ∃ m : Nat, n = m := ⟨n.toNat, by omega⟩
  have n2 : m ≤ 14 := by omega
  have HF : Hid (F = if (m : Int) ≤ ((chosF d m).length : Nat) then (bestL d m, true) else ([], false)) := by
    show _ = _
    rw [← hF.out]
    unfold bestF
    rw [hc, Int.toNat_natCast]
    by_cases hh : (m : Int) ≤ ((chosF d m).length : Nat)
    · rw [if_pos ⟨rfl, hh⟩, if_pos hh]
    · rw [if_neg (fun q => hh q.2), if_neg hh]
  have BL : Hid (bestL d m = putsL (intL (chosF d m))) := by show _ = _; unfold bestL; rw [putsL_eq]
  have ND := hide (chosF_ok d m).nd
  have LE := (chosF_ok d m).len
  have CC := hide (CH.out w1 X1.out m HC.out n2)
  clear hc hc2 hb hF CH
  have cB := B1.out.cell
  go_wp2_with fail
  clear cB
  refine CC.out.mono ?_
  rintro e w2 ⟨A2, c2, rfl, o2, x2⟩
  obtain ⟨G, hG⟩ : ∃ G, Hid (chosF d m = G) := ⟨_, rfl⟩
  rw [hG.out] at o2 HF BL ND LE ⊢
  obtain ⟨q, hq⟩ : ∃ q, Hid (G.length = q) := ⟨_, rfl⟩
  rw [hq.out] at o2 HF LE ⊢
  have S2 := hide o2.sl
  have cap2 := o2.capn; have capm2 := o2.capm
  have X2 := hide (X1.out.trans x2)
  have OA : Hid (OwnI 3 w2 w.heap.size none 0 0 (putsL (intL (G.take 0)))) := OwnI.nil
  clear o2 x2 CC hG
  go_wp2
  go_loopw [6, 17] (fun s6 s17 wr => ∃ (k : Nat) (A : Option Addr) (c : Nat), k ≤ q ∧ s17 = .int .i64 k ∧ s6 = .slice A k c ∧ OwnI 3 wr w.heap.size A k c (putsL (intL (G.take k))) ∧ Ext w2 wr) (fun _ s17 _ => q - (intOf s17).toNat)
  case atStart => exact ⟨0, none, 0, Nat.zero_le _, rfl, rfl, OA.out, Ext.refl _⟩
  case round =>
    obtain ⟨k, A, c, hk, rfl, rfl, ho, hx⟩ := hrel
    have O5 := hide ho
    have HX := hide hx
    clear ho hx OA
    have zz := (X2.out.trans HX.out).size
    by_cases hlt : k < q
    · have hltz : (k : Int) < (q : Int) := by omega
      obtain ⟨P, hP⟩ : ∃ P, Hid (G[k]? = some P) := get_ex G k (by rw [hq.out]; exact hlt)
      obtain ⟨b2, off, rfl, hb2, hc2⟩ := (SlI.ext S2.out HX.out (Nat.le_refl _)).cells (by omega)
      have ck := hc2 k hlt
      have eP : (intL G).getD k 0 = (P : Int) := by unfold intL; rw [List.getD_eq_getElem?_getD, List.getElem?_map, hP.out]; rfl
      rw [eP] at ck
      obtain ⟨hk', eP'⟩ := List.getElem?_eq_some_iff.1 hP.out
      have eT : Hid (putsL (intL (G.take (k + 1))) = putL (putsL (intL (G.take k))) P) := by
        show _ = _
        rw [List.take_succ_eq_append_getElem hk', eP', ← putsL_snoc]
        unfold intL
        rw [List.map_append]
        rfl
      have nin : (P : Int) ∉ putsL (intL (G.take k)) := fun hh => by
        have h1 := (putsL_spec (intL (G.take k))).1.mem_iff.1 hh
        unfold intL at h1
        obtain ⟨j, hj, e⟩ := List.mem_map.1 h1
        have e2 : j = P := by omega
        subst e2
        have h3 := ND.out
        rw [← List.take_append_drop k G, List.nodup_append] at h3
        exact h3.2.2 j hj j (by rw [← eP', List.drop_eq_getElem_cons hk']; exact List.mem_cons_self) rfl
      have LP := hide (s.l1Put_m A k c w.heap.size (putsL (intL (G.take k))) P wr O5.out (by omega) nin)
      clear nin hc2 eP
      go_wp2_with (go_at_call 67; refine LP.out.mono ?_; rintro e w5 ⟨A5, c5, rfl, o5, x5⟩)
      rw [← eT.out] at o5
      have O6 := hide (OwnI.lower o5 zz)
      have X6 := hide (HX.out.trans x5)
      clear o5 x5
      go_roundw
      case rel => exact ⟨k + 1, A5, c5, by omega, by go_num, rfl, O6.out, X6.out⟩
      case measure => simp [intOf]; omega
    · have hltz : ¬ (k : Int) < (q : Int) := by omega
      have e : k = q := by omega
      subst e
      rw [List.take_of_length_le (by rw [hq.out]; exact Nat.le_refl _), ← BL.out] at O5
      have L9 := hide (OwnI.len O5.out)
      by_cases hh : k < m
      · have hz : (k : Int) < (m : Int) := by omega
        rw [if_neg (by omega)] at HF
        go_wp2
        go_ret2
        rw [HF.out]
        exact ⟨none, 0, rfl, OwnI.nil, X2.out.trans HX.out⟩
      · have hz : ¬ (k : Int) < (m : Int) := by omega
        rw [if_pos (by omega)] at HF
        go_wp2
        go_ret2
        rw [HF.out]
        refine ⟨A, c, ?_, ?_, X2.out.trans HX.out⟩
        · exact congrArg (fun z => Ending.returned (.tuple #[.slice A z c, .bool true])) L9.out.symm
        · show OwnI _ _ _ _ (bestL d m).length _ _
          rw [L9.out]
          exact O5.out

set_option maxRecDepth 100000 in
set_option maxHeartbeats 2000000 in
theorem s.BestNames_law (w : World) (v : Value) (d : CoD) (n : Int) (h : kC.rd w v d) (hok : kC.ok d) (_hn : InR n) :
    Calls Tryz.prog 8 #[v, .int .i64 n] w fun e w' => ∃ v0, e = .returned (.tuple #[v0, .bool (bestF d n).2]) ∧ kI.fr w' w.heap.size w'.heap.size v0 (bestF d n).1 ∧ kI.ok (bestF d n).1 ∧ Ext w w' := by
  have OK := bestF_len d n
  obtain ⟨Ac, nc, cc, Al, nl, cl, r, b, p, f, rfl⟩ := kC.shape h
  obtain ⟨W0, hW0⟩ : ∃ W0, Hid (W0 = w.alloc (.cells #[.slice Ac nc cc, .slice Al nl cl, .int .i64 r, .int .i64 b, .int .i64 p, .int .i64 f] 26)) := ⟨_, rfl⟩
  have X0 : Hid (Ext w W0) := by rw [hW0.out]; exact Ext.alloc w _
  have PN := hide (s.pnNames_m W0 _ d n (kC.rd_ext h X0.out) hok)
  have zz := X0.out.size
  clear h hok
  obtain ⟨F, hF⟩ : ∃ F, Hid (bestF d n = F) := ⟨_, rfl⟩
  rw [hF.out] at PN OK ⊢
  go_enter Tryz.func8, Tryz.ntmps8
  go_wp2_with fail
  rw [← hW0.out]
  clear hW0
  refine PN.out.mono ?_
  rintro e w1 ⟨A1, c1, rfl, o1, x1⟩
  have O1 := hide o1
  have X1 := hide (X0.out.trans x1)
  clear o1 x1 PN
  go_wp2
  go_ret2
  exact ⟨_, rfl, kI_of (OwnI.lower O1.out zz), OK, X1.out⟩

set_option maxRecDepth 100000 in
set_option maxHeartbeats 2000000 in
theorem i.BestNames_m (w : World) (v : Value) (d : CoD) (n : Int) (h : kC.rd w v d) (hok : kC.ok d) :
    Calls Tryz.prog 7 #[v, .int .i64 n] w fun e w' => ∃ A' c', e = .returned (.tuple #[.slice A' (bestF d n).1.length c', .bool (bestF d n).2]) ∧ OwnI 3 w' w.heap.size A' (bestF d n).1.length c' (bestF d n).1 ∧ Ext w w' := by
  obtain ⟨Ac, nc, cc, Al, nl, cl, r, b, p, f, rfl⟩ := kC.shape h
  obtain ⟨W0, hW0⟩ : ∃ W0, Hid (W0 = w.alloc (.cells #[.slice Ac nc cc, .slice Al nl cl, .int .i64 r, .int .i64 b, .int .i64 p, .int .i64 f] 26)) := ⟨_, rfl⟩
  have X0 : Hid (Ext w W0) := by rw [hW0.out]; exact Ext.alloc w _
  have B0 : Hid (Blk W0 w.heap.size #[.slice Ac nc cc, .slice Al nl cl, .int .i64 r, .int .i64 b, .int .i64 p, .int .i64 f] 26) := by rw [hW0.out]; exact Blk.new rfl _ _
  have CQ := hide (i.IsCode_m W0 _ d (kC.rd_ext h X0.out) hok)
  have CH := hide (fun (wq : World) (xq : Ext w wq) (m : Nat) (hd : CodeOk d) (hm : m ≤ 14) => i.bestNames_m wq _ d m (kC.rd_ext h xq) hd hm)
  obtain ⟨F, hF⟩ : ∃ F, Hid (bestF d n = F) := ⟨_, rfl⟩
  rw [hF.out]
  clear h hok
  go_enter Tryz.func7, Tryz.ntmps7
  go_wp2_with fail
  rw [← hW0.out]
  clear hW0
  refine CQ.out.mono ?_
  rintro e w1 ⟨rfl, x1⟩
  have X1 := hide (X0.out.trans x1)
  have B1 := hide (B0.out.ext x1)
  clear x1 CQ X0 B0
  cases hc : codeB d
  · have HF : Hid (F = ([], false)) := by show _ = _; rw [← hF.out]; unfold bestF askB; rw [if_neg (by rw [hc]; simp)]
    clear hc
    go_wp2
    go_ret2
    rw [HF.out]
    exact ⟨none, 0, rfl, OwnI.nil, X1.out⟩
  have HC := hide (codeB_ok hc)
  cases hi : inB 1 14 n
  · have HF : Hid (F = ([], false)) := by show _ = _; rw [← hF.out]; unfold bestF askB; rw [if_neg (by rw [hi]; simp)]
    have HI := hide hi
    clear hc hi
    go_wp2_with (go_at_call 30; refine (i.isCount_any _ _).mono ?_; rintro e w' ⟨rfl, rfl⟩; rw [HI.out])
    go_ret2
    rw [HF.out]
    exact ⟨none, 0, rfl, OwnI.nil, X1.out⟩
  have HI := hide hi
  have hb := inB_ok hi
  obtain ⟨m, rfl⟩ : ∃ m : Nat, n = m := ⟨n.toNat, by omega⟩
  have n2 : m ≤ 14 := by omega
  have HF : Hid (F = if (m : Int) ≤ ((chosF d m).length : Nat) then (bestL d m, true) else ([], false)) := by
    show _ = _
    rw [← hF.out]
    unfold bestF askB
    rw [hc, hi, Int.toNat_natCast]
    by_cases hh : (m : Int) ≤ ((chosF d m).length : Nat)
    · rw [if_pos ⟨rfl, hh⟩, if_pos hh]
    · rw [if_neg (fun q => hh q.2), if_neg hh]
  have LB := hide (bestL_len d m)
  have LE := (chosF_ok d m).len
  have CC := hide (fun (wq : World) (xq : Ext w wq) => CH.out wq xq m HC.out n2)
  have z1 := X1.out.size
  clear hc hi hb hF CH
  obtain ⟨q, hq⟩ : ∃ q, Hid ((chosF d m).length = q) := ⟨_, rfl⟩
  rw [hq.out] at HF LB LE CC
  have cB := B1.out.cell
  go_wp2_with (go_at_call 30; refine (i.isCount_any _ _).mono ?_; rintro e w' ⟨rfl, rfl⟩; rw [HI.out])
  clear cB
  refine (CC.out w1 X1.out).mono ?_
  rintro e w2 ⟨A2, c2, rfl, o2, x2⟩
  have X2 := hide (X1.out.trans x2)
  have B2 := hide (B1.out.ext x2)
  clear o2 x2
  by_cases hh : q < m
  · have hz : (q : Int) < (m : Int) := by omega
    rw [if_neg (by omega)] at HF
    go_wp2
    go_ret2
    rw [HF.out]
    exact ⟨none, 0, rfl, OwnI.nil, X2.out⟩
  · have hz : ¬ (q : Int) < (m : Int) := by omega
    rw [if_pos (by omega)] at HF
    have cB := B2.out.cell
    have z2 := X2.out.size
    go_wp2_with (go_at_call 31; refine (CC.out w2 X2.out).mono ?_; rintro e w' ⟨A3, c3, rfl, o3, x3⟩)
    go_ret2
    rw [HF.out]
    refine ⟨A3, c3, ?_, ?_, X2.out.trans x3⟩
    · exact congrArg (fun z => Ending.returned (.tuple #[.slice A3 z c3, .bool true])) LB.out.symm
    · show OwnI _ _ _ _ (bestL d m).length _ _
      rw [LB.out]
      exact OwnI.lower o3 z2
theorem i.BestNames_law (w : World) (v : Value) (d : CoD) (n : Int) (h : kC.rd w v d) (hok : kC.ok d) (_hn : InR n) :
    Calls Tryz.prog 7 #[v, .int .i64 n] w fun e w' => ∃ v0, e = .returned (.tuple #[v0, .bool (bestF d n).2]) ∧ kI.fr w' w.heap.size w'.heap.size v0 (bestF d n).1 ∧ kI.ok (bestF d n).1 ∧ Ext w w' :=
  (i.BestNames_m w v d n h hok).mono fun _ _ ⟨A, c, he, o, x⟩ => ⟨_, he, kI_of o, bestF_len d n, x⟩
end Go.Proofs.YtegoapdbpfhkiaaGreat

/- Single items of the best elements, in the order of their bases. -/
namespace Go.Proofs.YtegoapdbpfhkiaaGreat
open Go.RowKit Go.Sort
set_option linter.unusedVariables false

theorem ltS_iff (a b : List UInt8) : ltS a b = true ↔ a < b := by
  unfold ltS
  rw [bs_toList, bs_toList, bytesLess_eq, decide_eq_true_eq]
theorem codeB_up {d : CoD} (h : codeB d = true) {i : Nat} (hi : i < d.1.length) : elB (d.1.getD i noEl) = true ∧ upB d.1 i = true := by
  simp only [codeB, Bool.and_eq_true, List.all_eq_true, List.mem_range] at h
  have := h.2 i hi
  unfold elAt at this
  rwa [Bool.and_eq_true] at this
theorem names_lt {d : CoD} (h : codeB d = true) : ∀ (k i : Nat), i < k → k < d.1.length → (d.1.getD i noEl).1 < (d.1.getD k noEl).1 := by
  intro k
  induction k with
  | zero => intro i hi; omega
  | succ k ih =>
    intro i hi hk
    have h1 := (codeB_up h hk).2
    unfold upB at h1
    rw [Bool.or_eq_true, decide_eq_true_eq] at h1
    have h2 : (d.1.getD k noEl).1 < (d.1.getD (k + 1) noEl).1 := by
      rcases h1 with h1 | h1
      · omega
      · exact (ltS_iff _ _).1 h1
    by_cases e : i = k
    · subst e; exact h2
    · exact List.lt_trans (ih i (by omega) (by omega)) h2
theorem names_ne {d : CoD} (h : codeB d = true) {i k : Nat} (hi : i < d.1.length) (hk : k < d.1.length) (hne : i ≠ k) : (d.1.getD i noEl).1 ≠ (d.1.getD k noEl).1 := by
  rcases Nat.lt_or_gt_of_ne hne with hl | hl
  · intro e
    have := names_lt h k i hl hk
    rw [e] at this
    exact List.lt_irrefl _ this
  · intro e
    have := names_lt h i k hl hi
    rw [e] at this
    exact List.lt_irrefl _ this
theorem findF_self {d : CoD} (h : codeB d = true) {i : Nat} (hi : i < d.1.length) : findF d.1 (d.1.getD i noEl).1 = i := by
  refine findF_hit (x := d.1.getD i noEl) (by rw [List.getD_eq_getElem?_getD, List.getElem?_eq_getElem hi]; rfl) ?_ (by simp)
  rw [List.all_eq_true]
  intro x hx
  obtain ⟨j, hj, rfl⟩ := List.getElem_of_mem hx
  rw [List.length_take] at hj
  unfold neN
  rw [List.getElem_take]
  have := names_ne h (show j < d.1.length by omega) hi (by omega)
  rw [List.getD_eq_getElem?_getD, List.getElem?_eq_getElem (by omega), Option.getD_some] at this
  simpa using this
/-- The single item of element i. -/
def snI (d : CoD) (i : Nat) : ItD := oneI (d.1.getD i noEl).1
theorem snI_full {d : CoD} (h : codeB d = true) {i : Nat} (hi : i < d.1.length) : fullF d (snI d i) = basE d i := by
  have hf := findF_self h hi
  unfold fullF snI oneI worthsF worthsN worthAt worthN worthE basE
  simp only [List.length_singleton, List.range_one, List.map_cons, List.map_nil, List.sum_cons, List.sum_nil, List.getD_cons_zero, hf, Int.toNat_natCast]
  simp
theorem snI_ok {d : CoD} (h : codeB d = true) {i : Nat} (hi : i < d.1.length) : ItOk d (snI d i) := by
  refine ⟨by simp [snI, oneI], by simp [snI, oneI], by simp [snI, oneI], fun j nm hj => ?_⟩
  unfold snI oneI at hj
  cases j with
  | zero =>
    simp only [List.getElem?_cons_zero, Option.some.injEq] at hj
    rw [← hj, findF_self h hi]
    exact Int.natCast_nonneg _
  | succ j => simp at hj
theorem snI_B {d : CoD} (h : codeB d = true) {i : Nat} (hi : i < d.1.length) : itemB (snI d i) = true := by
  have h1 := (codeB_up h hi).1
  unfold elB at h1
  simp only [Bool.and_eq_true] at h1
  unfold itemB snI oneI
  rw [show ([(d.1.getD i noEl).1] : List (List UInt8)).all nameB = true by rw [List.all_cons, h1.1.1.1]; rfl]
  rfl
section
variable {α β : Type} [Inhabited α] [Inhabited β]
theorem posS_mapG (lt : β → β → Bool) (f : α → β) (out : List α) (y : α) : ∀ k, k ≤ out.length → posS lt (out.map f) (f y) k = posS (fun x z => lt (f x) (f z)) out y k
  | 0, _ => rfl
  | k + 1, hk => by
    unfold posS
    rw [posS_mapG lt f out y k (by omega)]
    have e : (out.map f).getD k default = f (out.getD k default) := by
      rw [List.getD_eq_getElem?_getD, List.getD_eq_getElem?_getD, List.getElem?_map, List.getElem?_eq_getElem (by omega)]
      rfl
    rw [e]
theorem insS_mapG (lt : β → β → Bool) (f : α → β) (out : List α) (y : α) : insS lt (out.map f) (f y) = (insS (fun x z => lt (f x) (f z)) out y).map f := by
  unfold insS insAt
  rw [List.length_map, posS_mapG lt f out y _ (Nat.le_refl _), List.map_append, List.map_cons, List.map_take, List.map_drop]
theorem sortS_mapG (lt : β → β → Bool) (f : α → β) (xs : List α) : sortS lt (xs.map f) = (sortS (fun x z => lt (f x) (f z)) xs).map f := by
  have : ∀ (xs out : List α), (xs.map f).foldl (insS lt) (out.map f) = (xs.foldl (insS (fun x z => lt (f x) (f z))) out).map f := by
    intro xs
    induction xs with
    | nil => intro out; rfl
    | cons x t ih =>
      intro out
      rw [List.map_cons, List.foldl_cons, List.foldl_cons, insS_mapG, ih]
  exact this xs []
theorem sortS_spec {T : α → α → Prop} {lt : α → α → Bool} (tr : ∀ x y z, T x y → T y z → T x z) (xs : List α) (hX : xs.Pairwise (LtOf T lt)) : (sortS lt xs).Pairwise T ∧ (sortS lt xs).Perm xs := by
  obtain ⟨M, e, s, p⟩ := sm_insertion (lt := lt) tr [] xs [] hX
  simp only [List.nil_append, List.append_nil, List.length_nil, Nat.zero_add] at e
  rw [insertionSort_list] at e
  have e2 : sortS lt xs = M := by have := congrArg Array.toList e; simpa using this
  rw [e2]
  exact ⟨s, p⟩
end
theorem sorted_one {base : Nat → Int} {M M' : List Nat} (hp : M.Perm M') (h : M.Pairwise (befS base)) (h' : M'.Pairwise (befS base)) : M = M' :=
  hp.eq_of_pairwise (fun a b _ _ h1 h2 => by unfold befS at h1 h2; omega) h h'
/-- Behind the sort by bases the items are as the stable order of items has them. -/
theorem order_items {d : CoD} (h : codeB d = true) {js M : List Nat} (hjs : ∀ i ∈ js, i < d.1.length) (hs : js.Pairwise (fun x y => x < y)) (hp : M.Perm js) (ht : M.Pairwise (befS (basE d))) :
    lateL (M.map (snI d)) = orderL d (js.map (snI d)) := by
  unfold orderL
  have e1 : (js.map (snI d)).map earlyD = js.map (snI d) := by rw [List.map_map]; rfl
  rw [e1, sortS_mapG]
  have sp := sortS_spec (T := befS (basE d)) (lt := fun x z => decide (basE d x < basE d z)) (fun x y z => befS_trans) js (hs.imp (fun {x y} hxy => by
    unfold LtOf befS
    refine ⟨fun q => ?_, fun q => ?_⟩
    · have := of_decide_eq_true q
      omega
    · have := of_decide_eq_false q
      omega))
  have e2 : sortS (fun x z => ltF d (snI d x) (snI d z)) js = sortS (fun x z => decide (basE d x < basE d z)) js := by
    have gen : ∀ (xs out : List Nat), (∀ i ∈ xs, i < d.1.length) → (∀ i ∈ out, i < d.1.length) → xs.foldl (insS (fun x z => ltF d (snI d x) (snI d z))) out = xs.foldl (insS (fun x z => decide (basE d x < basE d z))) out := by
      intro xs
      induction xs with
      | nil => intro out _ _; rfl
      | cons x t ih =>
        intro out hx ho
        have hx0 := hx x (by simp)
        have e : insS (fun x z => ltF d (snI d x) (snI d z)) out x = insS (fun x z => decide (basE d x < basE d z)) out x := by
          unfold insS
          congr 1
          have : ∀ k, k ≤ out.length → posS (fun x z => ltF d (snI d x) (snI d z)) out x k = posS (fun x z => decide (basE d x < basE d z)) out x k := by
            intro k
            induction k with
            | zero => intro _; rfl
            | succ k ihk =>
              intro hk
              unfold posS
              rw [ihk (by omega)]
              have hm : out.getD k default < d.1.length := by
                rw [List.getD_eq_getElem?_getD, List.getElem?_eq_getElem (by omega)]
                exact ho _ (List.getElem_mem _)
              unfold ltF
              rw [snI_full h hx0, snI_full h hm]
          exact this _ (Nat.le_refl _)
        rw [List.foldl_cons, List.foldl_cons, e]
        refine ih _ (fun i hi => hx i (by simp [hi])) (fun i hi => ?_)
        unfold insS insAt at hi
        rcases List.mem_append.1 hi with q | q
        · exact ho i (List.mem_of_mem_take q)
        · rcases List.mem_cons.1 q with q | q
          · subst q; exact hx0
          · exact ho i (List.mem_of_mem_drop q)
    exact gen js [] hjs (by simp)
  rw [e2, ← sorted_one (hp.trans sp.2.symm) ht sp.1]
/-- The best elements as indices in increasing order. -/
def bestN (d : CoD) (n : Nat) : List Nat := (bestL d n).map Int.toNat
theorem bestL_mem {d : CoD} {n : Nat} {z : Int} (h : z ∈ bestL d n) : ∃ i : Nat, z = i ∧ i ∈ chosF d n := by
  unfold bestL at h
  rw [List.mem_reverse, (sortD_perm _).mem_iff] at h
  obtain ⟨i, hi, rfl⟩ := List.mem_map.1 h
  exact ⟨i, rfl, hi⟩
theorem bestN_int (d : CoD) (n : Nat) : intL (bestN d n) = bestL d n := by
  unfold intL bestN
  rw [List.map_map]
  conv => rhs; rw [← List.map_id (bestL d n)]
  refine List.map_congr_left fun z hz => ?_
  obtain ⟨i, rfl, _⟩ := bestL_mem hz
  simp
theorem bestN_lt {d : CoD} {n : Nat} : ∀ i ∈ bestN d n, i < d.1.length := by
  intro i hi
  obtain ⟨z, hz, rfl⟩ := List.mem_map.1 hi
  obtain ⟨j, rfl, hj⟩ := bestL_mem hz
  rw [Int.toNat_natCast]
  exact (chosF_ok d n).lt j hj
theorem bestN_sorted (d : CoD) (n : Nat) : (bestN d n).Pairwise (fun x y => x < y) := by
  have h1 : (bestL d n).Pairwise (fun x y => x ≤ y) := by
    unfold bestL
    rw [List.pairwise_reverse]
    exact (sortD_sorted _).imp (by simp)
  have h2 : (bestL d n).Nodup := by
    unfold bestL
    rw [(List.reverse_perm _).nodup_iff, (sortD_perm _).nodup_iff]
    unfold intL
    exact List.pairwise_map.2 ((chosF_ok d n).nd.imp (fun {a b} hab e => hab (by omega)))
  have h3 := h1.and h2
  unfold bestN
  rw [List.pairwise_map]
  refine List.Pairwise.imp_of_mem (fun {x y} hx hy hxy => ?_) h3
  obtain ⟨i, rfl, _⟩ := bestL_mem hx
  obtain ⟨j, rfl, _⟩ := bestL_mem hy
  have := hxy.1
  have h5 := hxy.2
  rw [Int.toNat_natCast, Int.toNat_natCast]
  omega
theorem bestN_len (d : CoD) (n : Nat) : (bestN d n).length = (bestL d n).length := by unfold bestN; rw [List.length_map]
/-- The best single programme. -/
def sngF (d : CoD) (n : Int) : List ItD × Bool := if (bestF d n).2 = true then (orderL d ((bestN d n.toNat).map (snI d)), true) else ([], false)
theorem bestF_yes {d : CoD} {n : Int} (h : (bestF d n).2 = true) : codeB d = true ∧ 1 ≤ n ∧ n ≤ 14 ∧ (bestF d n).1 = bestL d n.toNat ∧ ((bestL d n.toNat).length : Int) = n := by
  unfold bestF at h ⊢
  split at h
  · rename_i hh
    have h2 := hh.1
    unfold askB at h2
    rw [Bool.and_eq_true] at h2
    have h3 := inB_ok h2.2
    have h4 := (chosF_ok d n.toNat).len
    rw [if_pos hh]
    exact ⟨h2.1, h3.1, h3.2, rfl, by rw [bestL_len]; omega⟩
  · cases h
end Go.Proofs.YtegoapdbpfhkiaaGreat

/- The best single programme by both. -/
namespace Go.Proofs.YtegoapdbpfhkiaaGreat
open Go.RowKit Go.Sort
set_option linter.unusedVariables false

theorem sng_B {d : CoD} {n : Int} (h : (bestF d n).2 = true) : itemsB ((bestN d n.toNat).map (snI d)) = true := by
  obtain ⟨hc, n1, n2, _, l⟩ := bestF_yes h
  unfold itemsB
  rw [Bool.and_eq_true, List.all_eq_true, decide_eq_true_eq, List.length_map, bestN_len]
  refine ⟨fun x hx => ?_, by omega⟩
  obtain ⟨i, hi, rfl⟩ := List.mem_map.1 hx
  exact snI_B hc (bestN_lt i hi)
theorem sngF_B (d : CoD) (n : Int) : itemsB (sngF d n).1 = true := by
  unfold sngF
  split
  · rename_i h
    exact itemsB_order (sng_B h)
  · rfl
theorem sngF_ok (d : CoD) (n : Int) : kIt.ok (sngF d n).1 := itemsB_wt1 (sngF_B d n)
theorem elB_len {x : ElD} (h : elB x = true) : x.1.length ≤ 1048576 := by
  unfold elB nameB at h
  simp only [Bool.and_eq_true] at h
  have := inB_ok h.1.1.1.2
  omega

set_option maxRecDepth 100000 in
set_option maxHeartbeats 4000000 in
theorem i.BestSingles_m (w : World) (v : Value) (d : CoD) (n : Int) (h : kC.rd w v d) (hok : kC.ok d) :
    Calls Tryz.prog 5 #[v, .int .i64 n] w fun e w' => ∃ A' c' fp, e = .returned (.tuple #[.slice A' (sngF d n).1.length c', .bool (sngF d n).2]) ∧ LO kdItem 51 w' A' c' (sngF d n).1 fp ∧ (∀ i ∈ fp, w.heap.size ≤ i) ∧ Ext w w' := by
  have HR := hide h
  obtain ⟨Ac, cc, Al, cl, rfl, hle, hll⟩ := kC.lr h
  obtain ⟨F, hF⟩ : ∃ F, Hid (sngF d n = F) := ⟨_, rfl⟩
  rw [hF.out]
  obtain ⟨nc, NC⟩ : ∃ z, Hid (d.1.length = z) := ⟨_, rfl⟩
  obtain ⟨nl, NL⟩ : ∃ z, Hid (d.2.1.length = z) := ⟨_, rfl⟩
  obtain ⟨r, RN⟩ : ∃ z, Hid (d.2.2.1 = z) := ⟨_, rfl⟩
  obtain ⟨b, BN⟩ : ∃ z, Hid (d.2.2.2.1 = z) := ⟨_, rfl⟩
  obtain ⟨p, PN⟩ : ∃ z, Hid (d.2.2.2.2.1 = z) := ⟨_, rfl⟩
  obtain ⟨f, FN⟩ : ∃ z, Hid (d.2.2.2.2.2 = z) := ⟨_, rfl⟩
  rw [NC.out, NL.out, RN.out, BN.out, PN.out, FN.out] at HR ⊢
  have HL := hide hle
  have a1 := hle.1; have a2 := hle.2.1
  rw [NC.out] at a1
  have b1 := hll.1; have b2 := hll.2.1
  clear h hle hll
  obtain ⟨W0, hW0⟩ : ∃ W0, Hid (W0 = w.alloc (.cells #[.slice Ac nc cc, .slice Al nl cl, .int .i64 r, .int .i64 b, .int .i64 p, .int .i64 f] 26)) := ⟨_, rfl⟩
  have X0 : Hid (Ext w W0) := by rw [hW0.out]; exact Ext.alloc w _
  have B0 : Hid (Blk W0 w.heap.size #[.slice Ac nc cc, .slice Al nl cl, .int .i64 r, .int .i64 b, .int .i64 p, .int .i64 f] 26) := by rw [hW0.out]; exact Blk.new rfl _ _
  have BQ := hide (i.BestNames_m W0 _ d n (kC.rd_ext HR.out X0.out) hok)
  have SO := hide (fun (hd : CodeOk d) (wq : World) (xq : Ext W0 wq) (g c m : Nat) (js : List Nat) (o : OwnI 3 wq W0.heap.size (some ⟨g, 0, none⟩) m c (intL js)) (hg : W0.heap.size ≤ g) (hj : ∀ i ∈ js, i < nc) (hs : js.Pairwise (fun x y => x < y)) (h0 : 0 < nc) (h40 : m < 40) => sortSingles_m W0 wq w.heap.size w.heap.size d B0.out NC.out (HL.out.ext X0.out (Nat.le_refl _)) X0.out.size hd xq g c W0.heap.size m js o hg hj hs h0 h40)
  have z0 := X0.out.size
  clear hok
  go_enter Tryz.func5, Tryz.ntmps5
  go_wp2_with fail
  rw [← hW0.out]
  clear hW0
  refine BQ.out.mono ?_
  rintro e w1 ⟨A1, c1, rfl, o1, x1⟩
  have X1 := hide (X0.out.trans x1)
  cases hb : (bestF d n).2
  · have HF : Hid (F = ([], false)) := by show _ = _; rw [← hF.out]; unfold sngF; rw [hb]; rfl
    clear hb
    go_wp2
    go_ret2
    rw [HF.out]
    exact ⟨none, 0, [], rfl, LO.none_, by simp, X1.out⟩
  obtain ⟨hcd, hn1, hn14, he1, hl1⟩ := bestF_yes hb
  have HB := hide (sng_B hb)
  obtain ⟨m, rfl⟩ : ∃ m : Nat, n = m := ⟨n.toNat, by omega⟩
  rw [Int.toNat_natCast] at he1 hl1 HB
  have el : (bestF d m).1.length = m := by rw [he1]; omega
  rw [el, he1, ← bestN_int] at o1
  rw [el]
  have HF : Hid (F = (orderL d ((bestN d m).map (snI d)), true)) := by show _ = _; rw [← hF.out]; unfold sngF; rw [if_pos hb, Int.toNat_natCast]
  have HC := hide (codeB_ok hcd)
  have CB := hide hcd
  have JL : Hid ((bestN d m).length = m) := by show _ = _; rw [bestN_len]; omega
  have J1 : Hid (∀ i ∈ bestN d m, i < nc) := by rw [← NC.out]; exact bestN_lt
  have J2 := hide (bestN_sorted d m)
  have h1c := HC.out.n1
  rw [NC.out] at h1c
  have m14 : m ≤ 14 := by omega
  have m1 : 1 ≤ m := by omega
  have OI := hide (fun (M : List Nat) (hp : M.Perm (bestN d m)) (ht : M.Pairwise (befS (basE d))) => order_items CB.out bestN_lt J2.out hp ht)
  obtain ⟨g1, rfl, hg1, hg2, hg3⟩ := OwnI.pos o1 (by omega)
  have SQ := hide (SO.out HC.out w1 x1 g1 c1 m (bestN d m) o1 hg1 J1.out J2.out (by omega) (by omega))
  clear hb he1 hl1 el o1 SO BQ hF hcd x1
  go_wp2_with fail
  refine SQ.out.mono ?_
  rintro e w2 ⟨rfl, M, pM, tM, o2, x2, g2⟩
  have hl2 := hide (OI.out M pM tM)
  have lM : Hid (M.length = m) := by show _ = _; rw [pM.length_eq, JL.out]
  have MI : Hid (∀ i ∈ M, i < nc) := fun i hi => J1.out i (pM.mem_iff.1 hi)
  have O2 := hide o2
  have X2 := hide (X0.out.trans x2)
  have B2 := hide (B0.out.ext x2)
  have gs : g1 < w2.heap.size := by have := g2.size; omega
  clear pM tM o2 x2 g2 SQ OI
  go_wp2
  have zw := X2.out.size
  go_loopw [8, 25] (fun so si wr => ∃ (k : Nat) (A' : Option Addr) (c' : Nat) (fp : List Nat), k ≤ m ∧ si = .int .i64 k ∧ so = .slice A' k c' ∧ LO kdItem 51 wr A' c' ((M.take k).map (snI d)) fp ∧ (∀ i ∈ fp, w2.heap.size ≤ i) ∧ Ext w2 wr) (fun _ si _ => m - (intOf si).toNat)
  case atStart => exact ⟨0, some ⟨w2.heap.size, 0, none⟩, 0, [w2.heap.size], Nat.zero_le _, rfl, rfl, LO.emptyI w2, fun i hi => by simp at hi; omega, Ext.alloc w2 _⟩
  case round =>
    obtain ⟨k, A', c', fp, hk, rfl, rfl, hown, hfp, hx⟩ := hrel
    have HO := hide hown
    have HFP := hide hfp
    have HX := hide hx
    clear hown hx hfp
    by_cases hlt : k < m
    · have hltz : (k : Int) < (m : Int) := by omega
      obtain ⟨P, hP⟩ : ∃ P, Hid (M[k]? = some P) := get_ex M k (by rw [lM.out]; exact hlt)
      have P1 : P < nc := MI.out P (List.mem_of_getElem? hP.out)
      obtain ⟨x, hxk⟩ : ∃ x, Hid (d.1[P]? = some x) := get_ex d.1 P (by rw [NC.out]; exact P1)
      have E1 := hide (X2.out.trans HX.out)
      obtain ⟨be, off, rfl, hbe, q0, q1, q2, q3, -⟩ := (HL.out.ext E1.out (Nat.le_refl _)).element P x hxk.out
      have xl := elB_len (HC.out.els P x hxk.out)
      have ck := HX.out.cell (p := ⟨g1, k, none⟩) gs
      rw [O2.out.cell k hlt] at ck
      have eM : (intL M).getD k 0 = (P : Int) := by unfold intL; rw [List.getD_eq_getElem?_getD, List.getElem?_map, hP.out]; rfl
      rw [eM] at ck
      have cB := (B2.out.ext HX.out).cell
      have SI := hide (i.singleItem_m wr x xl)
      have HK : Hid ((M.take (k + 1)).map (snI d) = (M.take k).map (snI d) ++ [oneI x.1]) := by
        obtain ⟨hk', e⟩ := List.getElem?_eq_some_iff.1 hP.out
        show _ = _
        rw [List.take_succ_eq_append_getElem hk', e, List.map_append]
        unfold snI
        rw [List.map_singleton, getD_some hxk.out]
      have HLn : Hid (((M.take k).map (snI d)).length = k) := by show _ = _; rw [List.length_map, List.length_take, lM.out]; omega
      have LT := hide HO.out.lt
      have sz := HX.out.size
      have i1 : (P : Int) < nc := by omega
      have b1_ : (k + 1) * 56 ≤ 140737488355328 := by omega
      have b2_ : k + 1 ≤ 4611686018427387904 := by omega
      clear eM
      generalize bs x.1 = x0 at *
      generalize x.2.1 = x1 at *
      generalize x.2.2.1 = x2 at *
      generalize x.2.2.2 = x3 at *
      go_wp2_with fail
      refine SI.out.mono ?_
      rintro e w4 ⟨A3, A4, f', rfl, ho', hf', x4⟩
      have LO1 := hide ((HO.out.ext x4).ext (Ext.alloc w4 (.cells #[.slice A3 1 1, .slice A4 1 1, .bool false] 51)))
      have KO1 := hide (kdItem.own_ext ho' (Ext.alloc w4 (.cells #[.slice A3 1 1, .slice A4 1 1, .bool false] 51)))
      have D2 := hide (item_src w4 (.slice A3 1 1) (.slice A4 1 1) (.bool false) 51)
      have X4 := hide ((HX.out.trans x4).trans (Ext.alloc w4 (.cells #[.slice A3 1 1, .slice A4 1 1, .bool false] 51)))
      have FL := hide hf'
      have sz4 := x4.size
      clear ho' hf' x4 HO SI q0 q1 q2 q3 ck cB
      go_wp2_with (at_builtin; refine wpList_append_LO (K := kdItem) rfl (.tmp 29) (.tmp 36) rfl elemN_item (by decide) HLn.out.symm rfl rfl LO1.out KO1.out ?d1 D2.out b1_ b2_ ?_)
      case d1 => intro i hi hm; have := FL.out i hi; have := LT.out i hm; omega
      intro A9 c9 w9 fp9 hap
      have HA := hide hap
      clear hap
      go_wp2
      go_roundw
      case rel =>
        refine ⟨k + 1, A9, c9, fp9, by omega, by go_num, rfl, by rw [HK.out, List.map_take]; exact HA.out.own, fun i hi => ?_, X4.out.tchF HA.out.tch HFP.out⟩
        have h5 := X4.out.size
        rcases HA.out.sub i hi with h | h | h
        · exact HFP.out i h
        · have := FL.out i h; omega
        · rw [h]; exact h5
      case measure => simp [intOf]; omega
    · have ek : k = m := by omega
      subst ek
      have hltz : ¬ (k : Int) < (k : Int) := by omega
      have eT : M.take k = M := List.take_of_length_le (by rw [lM.out]; exact Nat.le_refl _)
      rw [eT] at HO
      have LL := hide (HO.out.rd)
      have lm : (M.map (snI d)).length = k := by rw [List.length_map, lM.out]
      have WT : wtL kdItem (M.map (snI d)) ≤ 1048576 := by
        refine itemsB_wt1 ?_
        unfold itemsB
        rw [Bool.and_eq_true, List.all_eq_true, decide_eq_true_eq, lm]
        refine ⟨fun x hx => ?_, by omega⟩
        obtain ⟨i, hi, rfl⟩ := List.mem_map.1 hx
        exact snI_B CB.out (by rw [NC.out]; exact MI.out i hi)
      have ML := hide (i.markLate_m wr A' c' wr.heap.size (M.map (snI d)) LL.out (Nat.le_refl _) WT)
      rw [lm, hl2.out] at ML
      have ln := orderL_len d ((bestN d k).map (snI d))
      rw [List.length_map, JL.out] at ln
      have LN := hide ln
      have zz := (X2.out.trans HX.out).size
      clear ln lm WT eT
      go_wp2_with (go_at_call 27; refine ML.out.mono ?_; rintro e w' ⟨A5, c5, fp5, rfl, l5, f5, x5⟩)
      go_ret2
      rw [HF.out]
      refine ⟨A5, c5, fp5, ?_, l5, fun i hi => Nat.le_trans zz (f5 i hi), (X2.out.trans HX.out).trans x5⟩
      exact congrArg (fun z => Ending.returned (.tuple #[.slice A5 z c5, .bool true])) LN.out.symm

set_option maxRecDepth 100000 in
set_option maxHeartbeats 4000000 in
theorem s.pnSingles_m (w : World) (v : Value) (d : CoD) (n : Int) (h : kC.rd w v d) (hok : kC.ok d) :
    Calls Tryz.prog 28 #[v, .int .i64 n] w fun e w' => ∃ A' c' fp, e = .returned (.tuple #[.slice A' (sngF d n).1.length c', .bool (sngF d n).2]) ∧ LO kdItem 51 w' A' c' (sngF d n).1 fp ∧ (∀ i ∈ fp, w.heap.size ≤ i) ∧ Ext w w' := by
  have HR := hide h
  obtain ⟨Ac, cc, Al, cl, rfl, hle, hll⟩ := kC.lr h
  obtain ⟨F, hF⟩ : ∃ F, Hid (sngF d n = F) := ⟨_, rfl⟩
  rw [hF.out]
  obtain ⟨nc, NC⟩ : ∃ z, Hid (d.1.length = z) := ⟨_, rfl⟩
  obtain ⟨nl, NL⟩ : ∃ z, Hid (d.2.1.length = z) := ⟨_, rfl⟩
  obtain ⟨r, RN⟩ : ∃ z, Hid (d.2.2.1 = z) := ⟨_, rfl⟩
  obtain ⟨b, BN⟩ : ∃ z, Hid (d.2.2.2.1 = z) := ⟨_, rfl⟩
  obtain ⟨p, PN⟩ : ∃ z, Hid (d.2.2.2.2.1 = z) := ⟨_, rfl⟩
  obtain ⟨f, FN⟩ : ∃ z, Hid (d.2.2.2.2.2 = z) := ⟨_, rfl⟩
  rw [NC.out, NL.out, RN.out, BN.out, PN.out, FN.out] at HR ⊢
  have HL := hide hle
  have a1 := hle.1; have a2 := hle.2.1
  rw [NC.out] at a1
  have b1 := hll.1; have b2 := hll.2.1
  clear h hle hll
  obtain ⟨W0, hW0⟩ : ∃ W0, Hid (W0 = w.alloc (.cells #[.slice Ac nc cc, .slice Al nl cl, .int .i64 r, .int .i64 b, .int .i64 p, .int .i64 f] 26)) := ⟨_, rfl⟩
  have X0 : Hid (Ext w W0) := by rw [hW0.out]; exact Ext.alloc w _
  have B0 : Hid (Blk W0 w.heap.size #[.slice Ac nc cc, .slice Al nl cl, .int .i64 r, .int .i64 b, .int .i64 p, .int .i64 f] 26) := by rw [hW0.out]; exact Blk.new rfl _ _
  have BQ := hide (s.pnNames_m W0 _ d n (kC.rd_ext HR.out X0.out) hok)
  have PO := hide (fun (hd : CodeOk d) (wq : World) (xq : Ext w wq) (A9 : Option Addr) (c9 : Nat) (ys : List ItD) (h9 : LR kdItem wq wq.heap.size A9 c9 ys) (h8 : itemsB ys = true) (h7 : ∀ x ∈ ys, ItOk d x) => s.pnOrder_m wq _ d A9 c9 wq.heap.size ys (kC.rd_ext HR.out xq) hok hd h9 (Nat.le_refl _) h8 h7)
  have z0 := X0.out.size
  clear hok
  go_enter Tryz.func28, Tryz.ntmps28
  go_wp2_with fail
  rw [← hW0.out]
  clear hW0
  refine BQ.out.mono ?_
  rintro e w1 ⟨A1, c1, rfl, o1, x1⟩
  have X1 := hide (X0.out.trans x1)
  cases hb : (bestF d n).2
  · have HF : Hid (F = ([], false)) := by show _ = _; rw [← hF.out]; unfold sngF; rw [hb]; rfl
    clear hb
    go_wp2
    go_ret2
    rw [HF.out]
    exact ⟨none, 0, [], rfl, LO.none_, by simp, X1.out⟩
  obtain ⟨hcd, hn1, hn14, he1, hl1⟩ := bestF_yes hb
  have HB := hide (sng_B hb)
  obtain ⟨m, rfl⟩ : ∃ m : Nat, n = m := ⟨n.toNat, by omega⟩
  rw [Int.toNat_natCast] at he1 hl1 HB
  have el : (bestF d m).1.length = m := by rw [he1]; omega
  rw [el, he1, ← bestN_int] at o1
  rw [el]
  have HF : Hid (F = (orderL d ((bestN d m).map (snI d)), true)) := by show _ = _; rw [← hF.out]; unfold sngF; rw [if_pos hb, Int.toNat_natCast]
  have HC := hide (codeB_ok hcd)
  have CB := hide hcd
  have JL : Hid ((bestN d m).length = m) := by show _ = _; rw [bestN_len]; omega
  have J1 : Hid (∀ i ∈ bestN d m, i < nc) := by rw [← NC.out]; exact bestN_lt
  have J2 := hide (bestN_sorted d m)
  have h1c := HC.out.n1
  rw [NC.out] at h1c
  have m14 : m ≤ 14 := by omega
  have m1 : 1 ≤ m := by omega
  obtain ⟨M, hM⟩ : ∃ M, Hid (bestN d m = M) := ⟨_, rfl⟩
  rw [hM.out] at o1 HF JL J1 J2 HB
  have lM := JL
  have MI := J1
  obtain ⟨g1, rfl, hg1, hg2, hg3⟩ := OwnI.pos o1 (by omega)
  have O2 := hide o1
  have X2 := hide X1.out
  have B2 := hide (B0.out.ext x1)
  have gs : g1 < w1.heap.size := hg2
  clear hb he1 hl1 el o1 BQ hF hcd x1 hM
  obtain ⟨w2, rfl⟩ : ∃ w2 : World, w2 = w1 := ⟨_, rfl⟩
  go_wp2
  have zw := X2.out.size
  go_loopw [8, 21] (fun so si wr => ∃ (k : Nat) (A' : Option Addr) (c' : Nat) (fp : List Nat), k ≤ m ∧ si = .int .i64 k ∧ so = .slice A' k c' ∧ LO kdItem 51 wr A' c' ((M.take k).map (snI d)) fp ∧ (∀ i ∈ fp, w2.heap.size ≤ i) ∧ Ext w2 wr) (fun _ si _ => m - (intOf si).toNat)
  case atStart => exact ⟨0, none, 0, [], Nat.zero_le _, rfl, rfl, LO.none_, by simp, Ext.refl _⟩
  case round =>
    obtain ⟨k, A', c', fp, hk, rfl, rfl, hown, hfp, hx⟩ := hrel
    have HO := hide hown
    have HFP := hide hfp
    have HX := hide hx
    clear hown hx hfp
    by_cases hlt : k < m
    · have hltz : (k : Int) < (m : Int) := by omega
      obtain ⟨P, hP⟩ : ∃ P, Hid (M[k]? = some P) := get_ex M k (by rw [lM.out]; exact hlt)
      have P1 : P < nc := MI.out P (List.mem_of_getElem? hP.out)
      obtain ⟨x, hxk⟩ : ∃ x, Hid (d.1[P]? = some x) := get_ex d.1 P (by rw [NC.out]; exact P1)
      have E1 := hide (X2.out.trans HX.out)
      obtain ⟨be, off, rfl, hbe, q0, q1, q2, q3, -⟩ := (HL.out.ext E1.out (Nat.le_refl _)).element P x hxk.out
      have xl := elB_len (HC.out.els P x hxk.out)
      have ck := HX.out.cell (p := ⟨g1, k, none⟩) gs
      rw [O2.out.cell k hlt] at ck
      have eM : (intL M).getD k 0 = (P : Int) := by unfold intL; rw [List.getD_eq_getElem?_getD, List.getElem?_map, hP.out]; rfl
      rw [eM] at ck
      have cB := (B2.out.ext HX.out).cell
      have SI := hide (s.pnItem_m wr x.1 xl)
      have HK : Hid ((M.take (k + 1)).map (snI d) = (M.take k).map (snI d) ++ [oneI x.1]) := by
        obtain ⟨hk', e⟩ := List.getElem?_eq_some_iff.1 hP.out
        show _ = _
        rw [List.take_succ_eq_append_getElem hk', e, List.map_append]
        unfold snI
        rw [List.map_singleton, getD_some hxk.out]
      have HLn : Hid (((M.take k).map (snI d)).length = k) := by show _ = _; rw [List.length_map, List.length_take, lM.out]; omega
      have LT := hide HO.out.lt
      have sz := HX.out.size
      have i1 : (P : Int) < nc := by omega
      have b1_ : (k + 1) * 56 ≤ 140737488355328 := by omega
      have b2_ : k + 1 ≤ 4611686018427387904 := by omega
      clear eM
      generalize bs x.1 = x0 at *
      generalize x.2.1 = x1 at *
      generalize x.2.2.1 = x2 at *
      generalize x.2.2.2 = x3 at *
      go_wp2_with fail
      refine SI.out.mono ?_
      rintro e w4 ⟨A3, A4, f', rfl, ho', hf', x4⟩
      have LO1 := hide ((HO.out.ext x4).ext (Ext.alloc w4 (.cells #[.slice A3 1 1, .slice A4 1 1, .bool false] 51)))
      have KO1 := hide (kdItem.own_ext ho' (Ext.alloc w4 (.cells #[.slice A3 1 1, .slice A4 1 1, .bool false] 51)))
      have D2 := hide (item_src w4 (.slice A3 1 1) (.slice A4 1 1) (.bool false) 51)
      have X4 := hide ((HX.out.trans x4).trans (Ext.alloc w4 (.cells #[.slice A3 1 1, .slice A4 1 1, .bool false] 51)))
      have FL := hide hf'
      have sz4 := x4.size
      clear ho' hf' x4 HO SI q0 q1 q2 q3 ck cB
      go_wp2_with (at_builtin; refine wpList_append_LO (K := kdItem) rfl (.tmp 25) (.tmp 33) rfl elemN_item (by decide) HLn.out.symm rfl rfl LO1.out KO1.out ?d1 D2.out b1_ b2_ ?_)
      case d1 => intro i hi hm; have := FL.out i hi; have := LT.out i hm; omega
      intro A9 c9 w9 fp9 hap
      have HA := hide hap
      clear hap
      go_wp2
      go_roundw
      case rel =>
        refine ⟨k + 1, A9, c9, fp9, by omega, by go_num, rfl, by rw [HK.out, List.map_take]; exact HA.out.own, fun i hi => ?_, X4.out.tchF HA.out.tch HFP.out⟩
        have h5 := X4.out.size
        rcases HA.out.sub i hi with h | h | h
        · exact HFP.out i h
        · have := FL.out i h; omega
        · rw [h]; exact h5
      case measure => simp [intOf]; omega
    · have ek : k = m := by omega
      subst ek
      have hltz : ¬ (k : Int) < (k : Int) := by omega
      have eT : M.take k = M := List.take_of_length_le (by rw [lM.out]; exact Nat.le_refl _)
      rw [eT] at HO
      have LL := hide (HO.out.rd)
      have lm : (M.map (snI d)).length = k := by rw [List.length_map, lM.out]
      have PQ := hide (PO.out HC.out wr (X2.out.trans HX.out) A' c' (M.map (snI d)) LL.out HB.out (fun x hx => by
        obtain ⟨i, hi, rfl⟩ := List.mem_map.1 hx
        exact snI_ok CB.out (by rw [NC.out]; exact MI.out i hi)))
      rw [lm] at PQ
      have ln := orderL_len d (M.map (snI d))
      rw [lm] at ln
      have LN := hide ln
      have zz := (X2.out.trans HX.out).size
      have cB := (B2.out.ext HX.out).cell
      clear ln lm eT
      go_wp2_with (go_at_call 59; refine PQ.out.mono ?_; rintro e w' ⟨A5, c5, fp5, rfl, l5, f5, x5⟩)
      go_ret2
      rw [HF.out]
      refine ⟨A5, c5, fp5, ?_, l5, fun i hi => Nat.le_trans zz (f5 i hi), (X2.out.trans HX.out).trans x5⟩
      exact congrArg (fun z => Ending.returned (.tuple #[.slice A5 z c5, .bool true])) LN.out.symm
end Go.Proofs.YtegoapdbpfhkiaaGreat

/- BestSingles and SinglesBase: the laws' sides. -/
namespace Go.Proofs.YtegoapdbpfhkiaaGreat
open Go.RowKit Go.Sort
set_option linter.unusedVariables false

theorem i.BestSingles_law (w : World) (v : Value) (d : CoD) (n : Int) (h : kC.rd w v d) (hok : kC.ok d) (_hn : InR n) :
    Calls Tryz.prog 5 #[v, .int .i64 n] w fun e w' => ∃ v0, e = .returned (.tuple #[v0, .bool (sngF d n).2]) ∧ kIt.fr w' w.heap.size w'.heap.size v0 (sngF d n).1 ∧ kIt.ok (sngF d n).1 ∧ Ext w w' :=
  (i.BestSingles_m w v d n h hok).mono fun _ _ ⟨A, c, fp, he, o, hf, x⟩ => ⟨_, he, kIt.ofOwn o hf rfl, sngF_ok d n, x⟩

set_option maxRecDepth 100000 in
set_option maxHeartbeats 2000000 in
theorem s.BestSingles_law (w : World) (v : Value) (d : CoD) (n : Int) (h : kC.rd w v d) (hok : kC.ok d) (_hn : InR n) :
    Calls Tryz.prog 6 #[v, .int .i64 n] w fun e w' => ∃ v0, e = .returned (.tuple #[v0, .bool (sngF d n).2]) ∧ kIt.fr w' w.heap.size w'.heap.size v0 (sngF d n).1 ∧ kIt.ok (sngF d n).1 ∧ Ext w w' := by
  have OK := sngF_ok d n
  obtain ⟨Ac, nc, cc, Al, nl, cl, r, b, p, f, rfl⟩ := kC.shape h
  obtain ⟨W0, hW0⟩ : ∃ W0, Hid (W0 = w.alloc (.cells #[.slice Ac nc cc, .slice Al nl cl, .int .i64 r, .int .i64 b, .int .i64 p, .int .i64 f] 26)) := ⟨_, rfl⟩
  have X0 : Hid (Ext w W0) := by rw [hW0.out]; exact Ext.alloc w _
  have PN := hide (s.pnSingles_m W0 _ d n (kC.rd_ext h X0.out) hok)
  have zz := X0.out.size
  clear h hok
  obtain ⟨F, hF⟩ : ∃ F, Hid (sngF d n = F) := ⟨_, rfl⟩
  rw [hF.out] at PN OK ⊢
  go_enter Tryz.func6, Tryz.ntmps6
  go_wp2_with fail
  rw [← hW0.out]
  clear hW0
  refine PN.out.mono ?_
  rintro e w1 ⟨A1, c1, fp1, rfl, o1, f1, x1⟩
  have O1 := hide o1
  have F1 := hide f1
  have X1 := hide (X0.out.trans x1)
  clear o1 x1 f1 PN
  go_wp2
  go_ret2
  exact ⟨_, rfl, kIt.ofOwn O1.out (fun i hi => Nat.le_trans zz (F1.out i hi)) rfl, OK, X1.out⟩

theorem sngF_ls {d : CoD} {n : Int} (h : (sngF d n).2 = true) : codeB d = true ∧ LsOk d (sngF d n).1 := by
  unfold sngF at h ⊢
  split at h
  · rename_i hb
    rw [if_pos hb]
    obtain ⟨hc, n1, n2, _, l⟩ := bestF_yes hb
    refine ⟨hc, ?_, fun k x hx => ?_⟩
    · show (orderL d _).length ≤ 14
      rw [orderL_len, List.length_map, bestN_len]
      omega
    · have hm : x ∈ orderL d ((bestN d n.toNat).map (snI d)) := List.mem_of_getElem? hx
      unfold orderL lateL at hm
      obtain ⟨i, hi, rfl⟩ := List.mem_map.1 hm
      rw [List.mem_range] at hi
      have hy : (sortS (ltF d) (((bestN d n.toNat).map (snI d)).map earlyD)).getD i noItem ∈ sortS (ltF d) (((bestN d n.toNat).map (snI d)).map earlyD) := by
        rw [List.getD_eq_getElem?_getD, List.getElem?_eq_getElem hi]
        exact List.getElem_mem hi
      have h2 := sortS_mem _ hy
      obtain ⟨y, hy1, hy2⟩ := List.mem_map.1 h2
      obtain ⟨j, hj, rfl⟩ := List.mem_map.1 hy1
      have h3 := itOk_early (snI_ok hc (bestN_lt j hj))
      rw [hy2] at h3
      exact ⟨h3.n1, h3.n3, h3.ml, h3.kn⟩
  · cases h
/-- The bases of the best single programme, added up. -/
def sbF (d : CoD) (n : Int) : Int × Bool := if (sngF d n).2 = true then ((basesF d (sngF d n).1).sum, true) else (0, false)

set_option maxRecDepth 100000 in
set_option maxHeartbeats 2000000 in
theorem s.SinglesBase_law (w : World) (v : Value) (d : CoD) (n : Int) (h : kC.rd w v d) (hok : kC.ok d) (_hn : InR n) :
    Calls Tryz.prog 10 #[v, .int .i64 n] w fun e w' => e = .returned (.tuple #[.int .i64 (sbF d n).1, .bool (sbF d n).2]) ∧ Ext w w' := by
  obtain ⟨Ac, nc, cc, Al, nl, cl, r, b, p, f, rfl⟩ := kC.shape h
  obtain ⟨W0, hW0⟩ : ∃ W0, Hid (W0 = w.alloc (.cells #[.slice Ac nc cc, .slice Al nl cl, .int .i64 r, .int .i64 b, .int .i64 p, .int .i64 f] 26)) := ⟨_, rfl⟩
  have X0 : Hid (Ext w W0) := by rw [hW0.out]; exact Ext.alloc w _
  have B0 : Hid (Blk W0 w.heap.size #[.slice Ac nc cc, .slice Al nl cl, .int .i64 r, .int .i64 b, .int .i64 p, .int .i64 f] 26) := by rw [hW0.out]; exact Blk.new rfl _ _
  have PN := hide (s.pnSingles_m W0 _ d n (kC.rd_ext h X0.out) hok)
  have PB := hide (fun (hd : CodeOk d) (hl : LsOk d (sngF d n).1) (wq : World) (xq : Ext w wq) (A : Option Addr) (c : Nat) (hi : LR kdItem wq wq.heap.size A c (sngF d n).1) => s.pnBase_m wq _ d A c wq.heap.size _ (kC.rd_ext h xq) hok hi (Nat.le_refl _) hd hl)
  obtain ⟨F, hF⟩ : ∃ F, Hid (sbF d n = F) := ⟨_, rfl⟩
  rw [hF.out]
  clear h hok
  go_enter Tryz.func10, Tryz.ntmps10
  go_wp2_with fail
  rw [← hW0.out]
  clear hW0
  refine PN.out.mono ?_
  rintro e w1 ⟨A1, c1, fp1, rfl, o1, f1, x1⟩
  have O1 := hide o1.rd
  have X1 := hide (X0.out.trans x1)
  have B1 := hide (B0.out.ext x1)
  clear o1 x1 f1 PN
  cases hb : (sngF d n).2
  · have HF : Hid (F = (0, false)) := by show _ = _; rw [← hF.out]; unfold sbF; rw [hb]; rfl
    clear hb
    go_wp2
    go_ret2
    rw [HF.out]
    exact ⟨rfl, X1.out⟩
  obtain ⟨hc, hl⟩ := sngF_ls hb
  have PQ := hide (PB.out (codeB_ok hc) hl w1 X1.out A1 c1 O1.out)
  have HF : Hid (F = ((basesF d (sngF d n).1).sum, true)) := by show _ = _; rw [← hF.out]; unfold sbF; rw [if_pos hb]
  clear hb hc hl PB hF
  generalize (basesF d (sngF d n).1).sum = S at *
  generalize (sngF d n).1.length = m at *
  have cB := B1.out.cell
  go_wp2_with (go_at_call 35; refine PQ.out.mono ?_; rintro e w2 ⟨rfl, x2⟩)
  go_ret2
  rw [HF.out]
  exact ⟨rfl, X1.out.trans x2⟩

set_option maxRecDepth 100000 in
set_option maxHeartbeats 2000000 in
theorem i.SinglesBase_law (w : World) (v : Value) (d : CoD) (n : Int) (h : kC.rd w v d) (hok : kC.ok d) (_hn : InR n) :
    Calls Tryz.prog 9 #[v, .int .i64 n] w fun e w' => e = .returned (.tuple #[.int .i64 (sbF d n).1, .bool (sbF d n).2]) ∧ Ext w w' := by
  obtain ⟨Ac, nc, cc, Al, nl, cl, r, b, p, f, rfl⟩ := kC.shape h
  obtain ⟨W0, hW0⟩ : ∃ W0, Hid (W0 = w.alloc (.cells #[.slice Ac nc cc, .slice Al nl cl, .int .i64 r, .int .i64 b, .int .i64 p, .int .i64 f] 26)) := ⟨_, rfl⟩
  have X0 : Hid (Ext w W0) := by rw [hW0.out]; exact Ext.alloc w _
  have B0 : Hid (Blk W0 w.heap.size #[.slice Ac nc cc, .slice Al nl cl, .int .i64 r, .int .i64 b, .int .i64 p, .int .i64 f] 26) := by rw [hW0.out]; exact Blk.new rfl _ _
  have PN := hide (i.BestSingles_m W0 _ d n (kC.rd_ext h X0.out) hok)
  have PB := hide (fun (hd : CodeOk d) (hl : LsOk d (sngF d n).1) (wq : World) (xq : Ext w wq) (A : Option Addr) (c : Nat) (hi : LR kdItem wq wq.heap.size A c (sngF d n).1) => i.baseValues_m wq _ d A c wq.heap.size _ (kC.rd_ext h xq) hok hd hi (Nat.le_refl _) hl)
  obtain ⟨F, hF⟩ : ∃ F, Hid (sbF d n = F) := ⟨_, rfl⟩
  rw [hF.out]
  clear h hok
  go_enter Tryz.func9, Tryz.ntmps9
  go_wp2_with fail
  rw [← hW0.out]
  clear hW0
  refine PN.out.mono ?_
  rintro e w1 ⟨A1, c1, fp1, rfl, o1, f1, x1⟩
  have O1 := hide o1.rd
  have X1 := hide (X0.out.trans x1)
  have B1 := hide (B0.out.ext x1)
  clear o1 x1 f1 PN
  cases hb : (sngF d n).2
  · have HF : Hid (F = (0, false)) := by show _ = _; rw [← hF.out]; unfold sbF; rw [hb]; rfl
    clear hb
    go_wp2
    go_ret2
    rw [HF.out]
    exact ⟨rfl, X1.out⟩
  obtain ⟨hc, hl⟩ := sngF_ls hb
  have PQ := hide (PB.out (codeB_ok hc) hl w1 X1.out A1 c1 O1.out)
  have SM := hide (bases_small (codeB_ok hc) hl)
  have l14 := hl.n
  have HF : Hid (F = ((basesF d (sngF d n).1).sum, true)) := by show _ = _; rw [← hF.out]; unfold sbF; rw [if_pos hb]
  clear hb hc hl PB hF
  generalize basesF d (sngF d n).1 = BF at *
  generalize (sngF d n).1.length = m at *
  have QO := hide (fun (A9 : Option Addr) (c9 : Nat) (wq : World) (lo : Nat) (h9 : OwnI 3 wq lo A9 m c9 BF) => i.sumInts_any A9 m c9 wq.heap.size _ wq h9.sl (by omega) SM.out)
  have cB := B1.out.cell
  go_wp2_with (first | (go_at_call 33; refine (QO.out A2 c2 w2 _ o2).mono ?_; rintro e w3 ⟨rfl, rfl⟩) | (go_at_call 34; refine PQ.out.mono ?_; rintro e w2 ⟨A2, c2, rfl, o2, x2⟩))
  go_ret2
  rw [HF.out]
  exact ⟨rfl, X1.out.trans x2⟩
end Go.Proofs.YtegoapdbpfhkiaaGreat
