/- GW: ZM, ZN, ZO, ZP, ZQ, ZR, ZS, ZT, ZU in one text. -/
import Derived.Test.YtegoapdbpfhkiaaGreatGZ
import Derived.Deep.RegionHeld3
import Derived.Test.YtegoapdbpfhkiaaGreatGY
import Derived.Sort.Lot0
/- An element of a list of one's own replaced; single items. -/
namespace Go.Proofs.YtegoapdbpfhkiaaGreat
open Go.RowKit Go.Sort
set_option linter.unusedVariables false

section
variable {α : Type} {K : Kd α} {e : TypeId} {w : World} {c : Nat} {A : Option Addr} {xs : List α} {fp : List Nat}
theorem nodup_swap {fps : List (List Nat)} {k : Nat} {f f' : List Nat} (hk : fps[k]? = some f) (h : fps.flatten.Nodup) (h' : f'.Nodup) (hd : ∀ i ∈ f', i ∉ fps.flatten) : (fps.set k f').flatten.Nodup := by
  obtain ⟨hlt, rfl⟩ := List.getElem?_eq_some_iff.1 hk
  have e1 : fps = fps.take k ++ fps[k] :: fps.drop (k + 1) := by rw [← List.drop_eq_getElem_cons hlt, List.take_append_drop]
  rw [List.set_eq_take_append_cons_drop, if_pos hlt]
  rw [e1] at h hd
  simp only [List.flatten_append, List.flatten_cons, List.nodup_append, List.mem_append, not_or] at h hd ⊢
  obtain ⟨h1, ⟨h2, h3, h4⟩, h5⟩ := h
  refine ⟨h1, ⟨h', h3, fun a ha b hb e => (hd a ha).2.2 (e ▸ hb)⟩, fun a ha b hb => ?_⟩
  rcases hb with hb | hb
  · rintro rfl
    exact (hd a hb).1 ha
  · exact h5 a ha b (.inr hb)
/-- An element of three cells replaced by another, with memory of its own. -/
theorem LO.swap3 (h3 : K.size = 3) (h : LO K e w A c xs fp) (k : Nat) (x : α) (hx : xs[k]? = some x) : ∃ g, A = some ⟨g, 0, none⟩ ∧ g ∈ fp ∧ g < w.heap.size ∧ (∀ j, w.frozen? ⟨g, j, none⟩ = false) ∧ (∃ u0 u1 u2, w.cell? ⟨g, k * 3, none⟩ = some u0 ∧ w.cell? ⟨g, k * 3 + 1, none⟩ = some u1 ∧ w.cell? ⟨g, k * 3 + 2, none⟩ = some u2) ∧
    ∀ (w' : World) (u0 u1 u2 : Value) (x' : α) (f' : List Nat), K.own w' [u0, u1, u2] x' f' → (∀ i ∈ fp, w'.heap[i]? = w.heap[i]?) → (∀ i ∈ f', i ∉ fp) →
      ∃ fp2, LO K e (((w'.setCell ⟨g, k * 3, none⟩ u0).setCell ⟨g, k * 3 + 1, none⟩ u1).setCell ⟨g, k * 3 + 2, none⟩ u2) A c (xs.set k x') fp2 ∧ (∀ i ∈ fp2, i ∈ fp ∨ i ∈ f') := by
  obtain ⟨css, fps, hr, hl1, hl2, hown, hfp, hnd⟩ := id h
  have hk : k < xs.length := (List.getElem?_eq_some_iff.1 hx).1
  have hck : css[k]? = some css[k] := List.getElem?_eq_getElem (by omega)
  have hfk : fps[k]? = some fps[k] := List.getElem?_eq_getElem (by omega)
  have hall : ∀ cs ∈ css, cs.length = 3 := by
    intro cs hcs
    obtain ⟨i, hi, rfl⟩ := List.getElem_of_mem hcs
    rw [← h3]
    exact K.rd_len (K.own_rd (hown i _ _ _ (List.getElem?_eq_getElem hi) (List.getElem?_eq_getElem (by omega)) (List.getElem?_eq_getElem (by omega))))
  rw [h3] at hr
  have hA : ∃ g, A = some ⟨g, 0, none⟩ := by
    rcases hr.2 with ⟨_, h2⟩ | ⟨g, cap, cur, h1, _⟩
    · omega
    · simp only [Value.slice.injEq] at h1; exact ⟨g, h1.1⟩
  obtain ⟨g, rfl⟩ := hA
  have hfp' : fp = g :: fps.flatten := by rw [hfp]; rfl
  have hnd2 : g ∉ fps.flatten ∧ fps.flatten.Nodup := by rw [hfp'] at hnd; exact List.nodup_cons.1 hnd
  have hg : g < w.heap.size := h.lt g (by rw [hfp']; simp)
  have h3k := hall css[k] (List.getElem_mem (by omega))
  have hcell : ∀ j, j < 3 → ∃ u, w.cell? ⟨g, k * 3 + j, none⟩ = some u := by
    intro j hj
    refine ⟨css[k][j], ?_⟩
    rw [World.ownsRow.cellAt hr (k * 3 + j) (by omega), flatten_at hall k j _ hck hj, List.getElem?_eq_getElem (by omega)]
  refine ⟨g, rfl, by rw [hfp']; simp, hg, fun j => World.ownsRow.frozenAt hr j, ?_, ?_⟩
  · obtain ⟨u0, h0⟩ := hcell 0 (by omega)
    obtain ⟨u1, h1⟩ := hcell 1 (by omega)
    obtain ⟨u2, h2⟩ := hcell 2 (by omega)
    exact ⟨u0, u1, u2, h0, h1, h2⟩
  · intro w' u0 u1 u2 x' f' ho ht hd
    have hr' := ownsRow_keep (w' := w') hr (fun p hp => by injection hp with hp; subst hp; exact ht g (by rw [hfp']; simp))
    have s1 := (World.ownsRow.stored hr' (k * 3) u0).1
    have s2 := (World.ownsRow.stored s1 (k * 3 + 1) u1).1
    have s3 := (World.ownsRow.stored s2 (k * 3 + 2) u2).1
    have e0 := flat_set1 hall k 0 _ hck (by omega) u0
    rw [Nat.add_zero] at e0
    have hall1 : ∀ cs ∈ css.set k (css[k].set 0 u0), cs.length = 3 := fun cs hcs => by
      rcases List.mem_or_eq_of_mem_set hcs with hm | rfl
      · exact hall cs hm
      · simpa using h3k
    have e1 := flat_set1 hall1 k 1 (css[k].set 0 u0) (by rw [List.getElem?_set, if_pos rfl, if_pos (by omega)]) (by omega) u1
    have hall2 : ∀ cs ∈ (css.set k (css[k].set 0 u0)).set k ((css[k].set 0 u0).set 1 u1), cs.length = 3 := fun cs hcs => by
      rcases List.mem_or_eq_of_mem_set hcs with hm | rfl
      · exact hall1 cs hm
      · simpa using h3k
    have e2 := flat_set1 hall2 k 2 ((css[k].set 0 u0).set 1 u1) (by rw [List.getElem?_set, if_pos rfl, if_pos (by simp; omega)]) (by omega) u2
    rw [e0, e1, e2] at s3
    have e3 : ((css[k].set 0 u0).set 1 u1).set 2 u2 = [u0, u1, u2] := by
      generalize css[k] = cs at h3k
      match cs, h3k with
      | [a, b, c], _ => rfl
    rw [List.set_set, List.set_set, e3] at s3
    have hblk : ∀ i, i ≠ g → (((w'.setCell ⟨g, k * 3, none⟩ u0).setCell ⟨g, k * 3 + 1, none⟩ u1).setCell ⟨g, k * 3 + 2, none⟩ u2).heap[i]? = w'.heap[i]? := fun i hi => by
      rw [Below.heap_setCell _ _ _ _ hi, Below.heap_setCell _ _ _ _ hi, Below.heap_setCell _ _ _ _ hi]
    have hgf : g ∉ f' := fun hm => hd g hm (by rw [hfp']; simp)
    have hsub : ∀ i ∈ (fps.set k f').flatten, i ∈ fps.flatten ∨ i ∈ f' := by
      intro i hi
      obtain ⟨l, hl, hil⟩ := List.mem_flatten.1 hi
      rcases List.mem_or_eq_of_mem_set hl with hm | rfl
      · exact .inl (List.mem_flatten.2 ⟨l, hm, hil⟩)
      · exact .inr hil
    refine ⟨g :: (fps.set k f').flatten, ⟨css.set k [u0, u1, u2], fps.set k f', by rw [h3, List.length_set]; exact s3, by simpa using hl1, by simpa using hl2, ?_, rfl, ?_⟩, ?_⟩
    · intro i cs y f h1 h2 h9
      rw [List.getElem?_set] at h1 h2 h9
      by_cases hki : k = i
      · subst hki
        rw [if_pos rfl, if_pos (by omega)] at h1 h2 h9
        injection h1 with h1
        injection h2 with h2
        injection h9 with h9
        subst h1 h2 h9
        exact K.own_keep ho (fun i hi => hblk i (fun e => hgf (e ▸ hi)))
      · rw [if_neg hki] at h1 h2 h9
        refine K.own_keep (hown i cs y f h1 h2 h9) (fun q hq => ?_)
        have hqf : q ∈ fps.flatten := List.mem_flatten.2 ⟨_, List.mem_of_getElem? h9, hq⟩
        rw [hblk q (fun e => hnd2.1 (e ▸ hqf))]
        exact ht q (by rw [hfp']; simp [hqf])
    · refine List.nodup_cons.2 ⟨fun hm => ?_, nodup_swap hfk hnd2.2 (K.own_nodup ho) (fun i hi hm => hd i hi (by rw [hfp']; simp [hm]))⟩
      rcases hsub g hm with h | h
      · exact hnd2.1 h
      · exact hgf h
    · intro i hi
      rcases List.mem_cons.1 hi with rfl | hi
      · exact .inl (by rw [hfp']; simp)
      · rcases hsub i hi with h | h
        · exact .inl (by rw [hfp']; simp [h])
        · exact .inr h
end
theorem OwnI.one (w : World) (z : Int) {lo : Nat} (h : lo ≤ w.heap.size) : OwnI 3 (w.alloc (.cells #[.int .i64 z] 3)) lo (some ⟨w.heap.size, 0, none⟩) 1 1 [z] :=
  World.ownsRow_lit (e := 3) (size := 1) (base := lo) w #[.int .i64 z] 1 h (by unfold maxLen; omega) (by simp)
theorem LO.oneS (w : World) (nm : List UInt8) (hn : nm.length ≤ 1048576) : LO kdS 9 (w.alloc (.cells #[.string (bs nm)] 9)) (some ⟨w.heap.size, 0, none⟩) 1 [nm] [w.heap.size] := by
  have h := World.ownsRow_lit (e := 9) (size := 1) (base := w.heap.size) w #[.string (bs nm)] 1 (Nat.le_refl _) (by unfold maxLen; omega) (by simp)
  exact Own.loS (xs := [nm]) h (by intro x hx; simp at hx; subst hx; omega)
end Go.Proofs.YtegoapdbpfhkiaaGreat

/- Single items. -/
namespace Go.Proofs.YtegoapdbpfhkiaaGreat
open Go.RowKit Go.Sort
set_option linter.unusedVariables false

theorem one_done {w W0 : World} {nm : List UInt8} (hn : nm.length ≤ 1048576) (hx : Ext w W0) :
    ∃ f, kdItem.own ((W0.alloc (.cells #[.string (bs nm)] 9)).alloc (.cells #[.int .i64 0] 3)) [.slice (some ⟨W0.heap.size, 0, none⟩) 1 1, .slice (some ⟨W0.heap.size + 1, 0, none⟩) 1 1, .bool false] (oneI nm) f ∧ (∀ i ∈ f, w.heap.size ≤ i) ∧
      Ext w ((W0.alloc (.cells #[.string (bs nm)] 9)).alloc (.cells #[.int .i64 0] 3)) := by
  have h1 := (LO.oneS W0 nm hn).ext (Ext.alloc (W0.alloc (.cells #[.string (bs nm)] 9)) (.cells #[.int .i64 0] 3))
  have h2 := (OwnI.one (lo := 0) (W0.alloc (.cells #[.string (bs nm)] 9)) 0 (Nat.zero_le _)).lo_
  have hz : (W0.alloc (.cells #[.string (bs nm)] 9)).heap.size = W0.heap.size + 1 := by simp
  have hs := hx.size
  rw [hz] at h2
  refine ⟨_, kdItem.mkOwn (d := oneI nm) h1 h2 (fun i hi hi' => by simp at hi hi'; omega), fun i hi => ?_, (hx.trans (Ext.alloc _ _)).trans (Ext.alloc _ _)⟩
  simp at hi
  omega

set_option maxRecDepth 100000 in
set_option maxHeartbeats 1000000 in
theorem i.singleItem_m (w : World) (x : ElD) (hn : x.1.length ≤ 1048576) :
    Calls Tryz.prog 26 #[.agg #[.string (bs x.1), .int .i64 x.2.1, .int .i64 x.2.2.1, .int .i64 x.2.2.2]] w fun e w' => ∃ A1 A2 f, e = .returned (.agg #[.slice A1 1 1, .slice A2 1 1, .bool false]) ∧ kdItem.own w' [.slice A1 1 1, .slice A2 1 1, .bool false] (oneI x.1) f ∧ (∀ i ∈ f, w.heap.size ≤ i) ∧ Ext w w' := by
  obtain ⟨nm, hnm⟩ : ∃ nm, Hid (x.1 = nm) := ⟨_, rfl⟩
  rw [hnm.out] at hn ⊢
  generalize x.2.1 = y1 at *
  generalize x.2.2.1 = y2 at *
  generalize x.2.2.2 = y3 at *
  obtain ⟨W0, hW0⟩ : ∃ W0, Hid (W0 = (w.alloc (.cells #[.string (bs nm), .int .i64 y1, .int .i64 y2, .int .i64 y3] 47)).alloc (.cells #[.slice (some ⟨w.heap.size + 1 + 1, 0, none⟩) 1 1, .slice (some ⟨w.heap.size + 1 + 1 + 1, 0, none⟩) 1 1, .bool false] 51)) := ⟨_, rfl⟩
  have X0 : Hid (Ext w W0) := by rw [hW0.out]; exact (Ext.alloc w _).trans (Ext.alloc _ _)
  have z0 : Hid (W0.heap.size = w.heap.size + 1 + 1) := by rw [hW0.out]; show _ = _; simp
  have DN := hide (one_done (w := w) (W0 := W0) (nm := nm) hn X0.out)
  rw [z0.out, hW0.out] at DN
  generalize bs nm = nb at *
  go_enter Tryz.func26, Tryz.ntmps26
  go_wp2
  refine bodyPost_ret (v := .agg #[.slice (some ⟨w.heap.size + 1 + 1, 0, none⟩) 1 1, .slice (some ⟨w.heap.size + 1 + 1 + 1, 0, none⟩) 1 1, .bool false]) (by simp [results, Tryz.results26, go_sem]) rfl ?_
  obtain ⟨f, k1, k2, k3⟩ := DN.out
  exact ⟨_, _, f, rfl, k1, k2, k3⟩

set_option maxRecDepth 100000 in
set_option maxHeartbeats 1000000 in
theorem s.pnItem_m (w : World) (nm : List UInt8) (hn : nm.length ≤ 1048576) :
    Calls Tryz.prog 58 #[.string (bs nm)] w fun e w' => ∃ A1 A2 f, e = .returned (.agg #[.slice A1 1 1, .slice A2 1 1, .bool false]) ∧ kdItem.own w' [.slice A1 1 1, .slice A2 1 1, .bool false] (oneI nm) f ∧ (∀ i ∈ f, w.heap.size ≤ i) ∧ Ext w w' := by
  obtain ⟨W0, hW0⟩ : ∃ W0, Hid (W0 = w.alloc (.cells #[.slice (some ⟨w.heap.size + 1, 0, none⟩) 1 1, .slice (some ⟨w.heap.size + 1 + 1, 0, none⟩) 1 1, .bool false] 51)) := ⟨_, rfl⟩
  have X0 : Hid (Ext w W0) := by rw [hW0.out]; exact Ext.alloc w _
  have z0 : Hid (W0.heap.size = w.heap.size + 1) := by rw [hW0.out]; show _ = _; simp
  have DN := hide (one_done (w := w) (W0 := W0) (nm := nm) hn X0.out)
  rw [z0.out, hW0.out] at DN
  generalize bs nm = nb at *
  go_enter Tryz.func58, Tryz.ntmps58
  go_wp2
  refine bodyPost_ret (v := .agg #[.slice (some ⟨w.heap.size + 1, 0, none⟩) 1 1, .slice (some ⟨w.heap.size + 1 + 1, 0, none⟩) 1 1, .bool false]) (by simp [results, Tryz.results58, go_sem]) rfl ?_
  obtain ⟨f, k1, k2, k3⟩ := DN.out
  exact ⟨_, _, f, rfl, k1, k2, k3⟩
end Go.Proofs.YtegoapdbpfhkiaaGreat

/- A replaced item's gain: the program's function; the reference's parts. -/
namespace Go.Proofs.YtegoapdbpfhkiaaGreat
open Go.RowKit Go.Sort
set_option linter.unusedVariables false

theorem nmLen {s : List UInt8} (h : nameB s = true) : s.length ≤ 5 := by
  simp only [nameB, inB, Bool.and_eq_true, decide_eq_true_eq] at h
  omega
theorem wtL_most {α : Type} (K : Kd α) (m : Nat) : ∀ (xs : List α), (∀ x ∈ xs, K.wt x ≤ m) → wtL K xs ≤ xs.length * (1 + m)
  | [], _ => Nat.zero_le _
  | x :: t, h => by
    have h1 := wtL_most K m t (fun y hy => h y (by simp [hy]))
    have h2 := h x (by simp)
    show 1 + K.wt x + wtL K t ≤ (t.length + 1) * (1 + m)
    rw [Nat.add_mul]
    omega
theorem itWt {x : ItD} (h : itemB x = true) : kdItem.wt x ≤ 21 := by
  have h0 := h
  obtain ⟨h1, h2, h3⟩ := itemB_ok h
  simp only [itemB, Bool.and_eq_true, List.all_eq_true] at h
  have h4 : kdSS.wt x.1 ≤ x.1.length * (1 + 5) := wtL_most kdS 5 x.1 (fun y hy => by have := nmLen (h.1.1.1 y hy); exact this)
  have h5 : kdL.wt x.2.1 = x.2.1.length := wtL_int _
  rw [kdItem.wt_eq]
  omega
theorem itsWt {xs : List ItD} (h : itemsB xs = true) : xs.length ≤ 14 ∧ wtL kdItem xs ≤ 308 := by
  simp only [itemsB, Bool.and_eq_true, List.all_eq_true, decide_eq_true_eq] at h
  have h1 := wtL_most kdItem 21 xs (fun x hx => itWt (h.1 x hx))
  have h2 : xs.length ≤ 14 := by omega
  omega
theorem itemB_one {nm : List UInt8} (h : nameB nm = true) : itemB (oneI nm) = true := by
  simp [itemB, oneI, h, inB]
theorem itemsB_set {xs : List ItD} {k : Nat} {y : ItD} (h : itemsB xs = true) (hy : itemB y = true) : itemsB (xs.set k y) = true := by
  simp only [itemsB, Bool.and_eq_true, List.all_eq_true, decide_eq_true_eq, List.length_set] at h ⊢
  refine ⟨fun x hx => ?_, h.2⟩
  rcases List.mem_or_eq_of_mem_set hx with hm | rfl
  · exact h.1 x hm
  · exact hy
theorem lateL_get (xs : List ItD) (i : Nat) (h : i < xs.length) : (lateL xs)[i]? = some (lateD xs.length i xs[i]) := lateL_at xs i h
theorem itemsB_late {xs : List ItD} (h : itemsB xs = true) : itemsB (lateL xs) = true := by
  simp only [itemsB, Bool.and_eq_true, List.all_eq_true, decide_eq_true_eq] at h ⊢
  refine ⟨fun x hx => ?_, by rw [lateL_len]; exact h.2⟩
  obtain ⟨i, hi⟩ := List.getElem?_of_mem hx
  have hl : i < xs.length := by have := (List.getElem?_eq_some_iff.1 hi).1; rwa [lateL_len] at this
  rw [lateL_get xs i hl] at hi
  injection hi with hi
  subst hi
  have := h.1 _ (List.getElem_mem hl)
  exact this
theorem itemsB_repl {xs : List ItD} {k : Nat} {nm : List UInt8} (h : itemsB xs = true) (hn : nameB nm = true) : itemsB (replL xs k nm) = true := itemsB_late (itemsB_set h (itemB_one hn))
theorem itemsB_wt1 {xs : List ItD} (h : itemsB xs = true) : wtL kdItem xs ≤ 1048576 := by have := itsWt h; omega
theorem bases_small {d : CoD} {xs : List ItD} (hd : CodeOk d) (ho : LsOk d xs) : Small (basesF d xs) := fun z hz => by
  have := basesN_bd hd ho xs.length z hz
  omega
theorem bases_sum {d : CoD} {xs : List ItD} (hd : CodeOk d) (ho : LsOk d xs) : 0 ≤ (basesF d xs).sum ∧ (basesF d xs).sum ≤ 140000 := by
  have h : ∀ (zs : List Int), (∀ z ∈ zs, 0 ≤ z ∧ z ≤ 10000) → 0 ≤ zs.sum ∧ zs.sum ≤ 10000 * (zs.length : Int) := by
    intro zs
    induction zs with
    | nil => intro _; simp
    | cons z t ih =>
      intro h
      have h1 := h z (by simp)
      have h2 := ih (fun y hy => h y (by simp [hy]))
      rw [List.sum_cons, List.length_cons]
      omega
  have h1 := h _ (basesN_bd hd ho xs.length)
  rw [basesN_len] at h1
  have := ho.n
  unfold basesF
  omega
theorem progB_ls {d : CoD} {xs : List ItD} (h : progB d xs = true) : LsOk d xs := lsOk (progB_code h).2 (progB_known h)
def gainR (d : CoD) (xs : List ItD) (k : Nat) (nm : List UInt8) : Int × Bool := if progB d (replL xs k nm) then (gainV d xs (replL xs k nm), true) else (0, false)

set_option maxRecDepth 100000 in
set_option maxHeartbeats 2000000 in
theorem s.pnBase_m (w : World) (v : Value) (d : CoD) (A : Option Addr) (c B : Nat) (xs : List ItD) (h : kC.rd w v d) (hok : kC.ok d) (hi : LR kdItem w B A c xs) (hB : B ≤ w.heap.size) (hd : CodeOk d) (ho : LsOk d xs) :
    Calls Tryz.prog 35 #[v, .slice A xs.length c] w fun e w' => e = .returned (.int .i64 (basesF d xs).sum) ∧ Ext w w' := by
  obtain ⟨Ac, nc, cc, Al, nl, cl, rr, b, p, f, rfl⟩ := kC.shape h
  have a1 := hi.1; have a2 := hi.2.1
  have h14 := ho.n
  obtain ⟨W0, hW0⟩ : ∃ W0, Hid (W0 = w.alloc (.cells #[.slice Ac nc cc, .slice Al nl cl, .int .i64 rr, .int .i64 b, .int .i64 p, .int .i64 f] 26)) := ⟨_, rfl⟩
  have X0 : Hid (Ext w W0) := by rw [hW0.out]; exact Ext.alloc w _
  have BA := hide (s.bsAll_m W0 _ d A c B xs (kC.rd_ext h X0.out) hok hd (hi.ext X0.out hB) (Nat.le_trans hB X0.out.size) ho)
  have SB := hide (bases_small hd ho)
  clear h hi hd ho
  obtain ⟨n, hn⟩ : ∃ n, Hid (xs.length = n) := ⟨_, rfl⟩
  rw [hn.out] at a1 h14 BA ⊢
  have PO := hide (fun (A9 : Option Addr) (c9 : Nat) (wo : World) (lo : Nat) (h9 : OwnI 3 wo lo A9 n c9 (basesF d xs)) => s.poSum_any A9 n c9 wo.heap.size _ wo h9.sl (by omega) SB.out)
  generalize (basesF d xs).sum = s2 at *
  go_enter Tryz.func35, Tryz.ntmps35
  go_wp2_with fail
  rw [← hW0.out]
  clear hW0
  refine BA.out.mono ?_
  rintro e w1 ⟨A9, c9, rfl, o9, x9⟩
  have X1 := hide (X0.out.trans x9)
  have O9 := hide o9
  clear o9 x9 BA
  go_wp2_with (go_at_call 69; refine (PO.out A9 c9 w1 _ O9.out).mono ?_; rintro e w3 ⟨rfl, rfl⟩)
  go_ret
  exact ⟨rfl, X1.out⟩

end Go.Proofs.YtegoapdbpfhkiaaGreat

/- ReplaceGain. -/
namespace Go.Proofs.YtegoapdbpfhkiaaGreat
open Go.RowKit Go.Sort
set_option linter.unusedVariables false

theorem inB_nat {n : Nat} {k : Int} (h : inB 0 ((n : Int) - 1) k = true) : ∃ j : Nat, k = j ∧ j < n := by
  simp only [inB, Bool.and_eq_true, decide_eq_true_eq] at h
  exact ⟨k.toNat, by omega, by omega⟩

end Go.Proofs.YtegoapdbpfhkiaaGreat

/- ReplaceGain by the reference. -/
namespace Go.Proofs.YtegoapdbpfhkiaaGreat
open Go.RowKit Go.Sort
set_option linter.unusedVariables false

end Go.Proofs.YtegoapdbpfhkiaaGreat

/- BestReplace. -/
namespace Go.Proofs.YtegoapdbpfhkiaaGreat
open Go.RowKit Go.Sort
set_option linter.unusedVariables false

abbrev BrS := Int × Int × Int
def brStep (d : CoD) (xs : List ItD) (k : Nat) (s : BrS) (i : Nat) : BrS := if (gainR d xs k (d.1.getD i noEl).1).2 && decide (s.2.2 < (gainR d xs k (d.1.getD i noEl).1).1) then ((k : Int), (i : Int), (gainR d xs k (d.1.getD i noEl).1).1) else s
def brRow (d : CoD) (xs : List ItD) (k : Nat) (s : BrS) (m : Nat) : BrS := (List.range m).foldl (brStep d xs k) s
def brAll (d : CoD) (xs : List ItD) (k : Nat) : BrS := (List.range k).foldl (fun s k => brRow d xs k s d.1.length) (0, 0, 0)
theorem brRow_zero (d : CoD) (xs : List ItD) (k : Nat) (s : BrS) : brRow d xs k s 0 = s := rfl
theorem brRow_succ (d : CoD) (xs : List ItD) (k : Nat) (s : BrS) (m : Nat) : brRow d xs k s (m + 1) = brStep d xs k (brRow d xs k s m) m := by
  unfold brRow; rw [List.range_succ, List.foldl_append]; rfl
theorem brAll_succ (d : CoD) (xs : List ItD) (k : Nat) : brAll d xs (k + 1) = brRow d xs k (brAll d xs k) d.1.length := by
  unfold brAll; rw [List.range_succ, List.foldl_append]; rfl
def BrOk (s : BrS) : Prop := 0 ≤ s.2.2 ∧ (s.2.2 = 0 → s = (0, 0, 0))
theorem brStep_ok {d : CoD} {xs : List ItD} {k : Nat} {s : BrS} (h : BrOk s) (i : Nat) : BrOk (brStep d xs k s i) := by
  unfold brStep
  split
  · rename_i hc
    simp only [Bool.and_eq_true, decide_eq_true_eq] at hc
    have := h.1
    exact ⟨by show 0 ≤ (gainR d xs k (d.1.getD i noEl).1).1; omega, fun e => by have e : (gainR d xs k (d.1.getD i noEl).1).1 = 0 := e; omega⟩
  · exact h
theorem brRow_ok {d : CoD} {xs : List ItD} {k : Nat} {s : BrS} (h : BrOk s) (m : Nat) : BrOk (brRow d xs k s m) := by
  induction m with
  | zero => exact h
  | succ m ih => rw [brRow_succ]; exact brStep_ok ih m
theorem brAll_ok (d : CoD) (xs : List ItD) (k : Nat) : BrOk (brAll d xs k) := by
  induction k with
  | zero => exact ⟨Int.le_refl _, fun _ => rfl⟩
  | succ k ih => rw [brAll_succ]; exact brRow_ok ih _
def bestReplF (d : CoD) (xs : List ItD) : Int × Int × Int × Bool := if progB d xs then ((brAll d xs xs.length).1, (brAll d xs xs.length).2.1, (brAll d xs xs.length).2.2, decide (0 < (brAll d xs xs.length).2.2)) else (0, 0, 0, false)
theorem brStep_yes {d : CoD} {xs : List ItD} {k : Nat} {a b m g : Int} {i : Nat} (h : gainR d xs k (d.1.getD i noEl).1 = (g, true)) (hl : m < g) : brStep d xs k (a, b, m) i = ((k : Int), (i : Int), g) := by
  unfold brStep; rw [h, if_pos (by simpa using hl)]
theorem brStep_no {d : CoD} {xs : List ItD} {k : Nat} {a b m g : Int} {q : Bool} {i : Nat} (h : gainR d xs k (d.1.getD i noEl).1 = (g, q)) (hl : q = false ∨ ¬ m < g) : brStep d xs k (a, b, m) i = (a, b, m) := by
  unfold brStep
  rw [h, if_neg]
  rcases hl with rfl | hl
  · simp
  · simp; omega
theorem gainF_R {d : CoD} {xs : List ItD} {k : Nat} (nm : List UInt8) (hp : progB d xs = true) (hk : k < xs.length) : gainF d xs (k : Int) nm = gainR d xs k nm := by
  unfold gainF gainR
  rw [hp, show inB 0 ((xs.length : Int) - 1) (k : Int) = true from by simp [inB]; omega, Int.toNat_natCast]
  rfl

end Go.Proofs.YtegoapdbpfhkiaaGreat

/- Two elements of a list of one's own exchanged. -/
namespace Go.Proofs.YtegoapdbpfhkiaaGreat
open Go.RowKit Go.Sort
set_option linter.unusedVariables false

section
variable {α : Type} {K : Kd α} {e : TypeId} {w : World} {c : Nat} {A : Option Addr} {xs : List α} {fp : List Nat}
theorem row_set3 {g n : Nat} {css : List (List Value)} (hr : w.ownsRow 0 e 3 (.slice (some ⟨g, 0, none⟩) n c) n css.flatten) (hall : ∀ cs ∈ css, cs.length = 3) (k : Nat) (hk : k < css.length) (u0 u1 u2 : Value) :
    (((w.setCell ⟨g, k * 3, none⟩ u0).setCell ⟨g, k * 3 + 1, none⟩ u1).setCell ⟨g, k * 3 + 2, none⟩ u2).ownsRow 0 e 3 (.slice (some ⟨g, 0, none⟩) n c) n (css.set k [u0, u1, u2]).flatten := by
  have hck : css[k]? = some css[k] := List.getElem?_eq_getElem hk
  have h3k := hall css[k] (List.getElem_mem hk)
  have s1 := (World.ownsRow.stored hr (k * 3) u0).1
  have s2 := (World.ownsRow.stored s1 (k * 3 + 1) u1).1
  have s3 := (World.ownsRow.stored s2 (k * 3 + 2) u2).1
  have e0 := flat_set1 hall k 0 _ hck (by omega) u0
  rw [Nat.add_zero] at e0
  have hall1 : ∀ cs ∈ css.set k (css[k].set 0 u0), cs.length = 3 := fun cs hcs => by
    rcases List.mem_or_eq_of_mem_set hcs with hm | rfl
    · exact hall cs hm
    · simpa using h3k
  have e1 := flat_set1 hall1 k 1 (css[k].set 0 u0) (by rw [List.getElem?_set, if_pos rfl, if_pos hk]) (by omega) u1
  have hall2 : ∀ cs ∈ (css.set k (css[k].set 0 u0)).set k ((css[k].set 0 u0).set 1 u1), cs.length = 3 := fun cs hcs => by
    rcases List.mem_or_eq_of_mem_set hcs with hm | rfl
    · exact hall1 cs hm
    · simpa using h3k
  have e2 := flat_set1 hall2 k 2 ((css[k].set 0 u0).set 1 u1) (by rw [List.getElem?_set, if_pos rfl, if_pos (by simpa using hk)]) (by omega) u2
  rw [e0, e1, e2] at s3
  have e3 : ((css[k].set 0 u0).set 1 u1).set 2 u2 = [u0, u1, u2] := by
    generalize css[k] = cs at h3k
    match cs, h3k with
    | [a, b, c], _ => rfl
  rwa [List.set_set, List.set_set, e3] at s3
theorem len3 {cs : List Value} (h : cs.length = 3) : ∃ a b c, cs = [a, b, c] := by
  match cs, h with
  | [a, b, c], _ => exact ⟨a, b, c, rfl⟩
theorem LO.swap_aux {w9 : World} {g i j : Nat} {x y : α} {css : List (List Value)} {fps : List (List Nat)} {ca cb : List Value} (h3 : K.size = 3) (hij : i ≠ j) (hl1 : css.length = xs.length) (hl2 : fps.length = xs.length)
    (hown : ∀ (k : Nat) (cs : List Value) (x : α) (f : List Nat), css[k]? = some cs → xs[k]? = some x → fps[k]? = some f → K.own w cs x f) (hnd : (g :: fps.flatten).Nodup) (hi : i < xs.length) (hj : j < xs.length) (oi : K.own w ca x (fps[i]'(by omega))) (oj : K.own w cb y (fps[j]'(by omega)))
    (s2 : w9.ownsRow 0 e 3 (.slice (some ⟨g, 0, none⟩) xs.length c) xs.length ((css.set i cb).set j ca).flatten) (hblk : ∀ q, q ≠ g → w9.heap[q]? = w.heap[q]?) :
    ∃ fp2, LO K e w9 (some ⟨g, 0, none⟩) c ((xs.set i y).set j x) fp2 ∧ ∀ k ∈ fp2, k ∈ g :: fps.flatten := by
  have hnd2 := List.nodup_cons.1 hnd
  have fi : fps[i]? = some (fps[i]'(by omega)) := List.getElem?_eq_getElem (by omega)
  have fj : fps[j]? = some (fps[j]'(by omega)) := List.getElem?_eq_getElem (by omega)
  have hpf : ((fps.set i (fps[j]'(by omega))).set j (fps[i]'(by omega))).Perm fps := List.set_set_perm (by omega) (by omega)
  have hpp := hpf.flatten
  generalize fps[i]'(by omega) = f1 at *
  generalize fps[j]'(by omega) = f2 at *
  have hq : ∀ (f0 : List Nat) (q0 : Nat), fps[q0]? = some f0 → ∀ r ∈ f0, r ≠ g := fun f0 q0 hf0 r hr e => hnd2.1 (e ▸ List.mem_flatten.2 ⟨_, List.mem_of_getElem? hf0, hr⟩)
  refine ⟨g :: ((fps.set i f2).set j f1).flatten, ⟨(css.set i cb).set j ca, (fps.set i f2).set j f1, by rw [h3, List.length_set, List.length_set]; exact s2, by simpa using hl1, by simpa using hl2, ?_, rfl, ?_⟩, ?_⟩
  · intro q cs z f h1 h2 h9
    rw [List.getElem?_set] at h1 h2 h9
    by_cases hjq : j = q
    · subst hjq
      rw [if_pos rfl, if_pos (by rw [List.length_set]; omega)] at h1 h2 h9
      obtain rfl := Option.some.inj h1
      obtain rfl := Option.some.inj h2
      obtain rfl := Option.some.inj h9
      exact K.own_keep oi (fun r hr => hblk r (hq _ i fi r hr))
    · rw [if_neg hjq, List.getElem?_set] at h1 h2 h9
      by_cases hiq : i = q
      · subst hiq
        rw [if_pos rfl, if_pos (by omega)] at h1 h2 h9
        obtain rfl := Option.some.inj h1
        obtain rfl := Option.some.inj h2
        obtain rfl := Option.some.inj h9
        exact K.own_keep oj (fun r hr => hblk r (hq _ j fj r hr))
      · rw [if_neg hiq] at h1 h2 h9
        exact K.own_keep (hown q cs z f h1 h2 h9) (fun r hr => hblk r (hq _ q h9 r hr))
  · exact List.nodup_cons.2 ⟨fun hm => hnd2.1 (hpp.mem_iff.1 hm), hpp.nodup_iff.2 hnd2.2⟩
  · intro q hq
    rcases List.mem_cons.1 hq with rfl | hq
    · simp
    · exact List.mem_cons_of_mem _ (hpp.mem_iff.1 hq)
set_option maxHeartbeats 400000 in
/-- Two elements of three cells exchanged. -/
theorem LO.swapE (h3 : K.size = 3) (h : LO K e w A c xs fp) (i j : Nat) (x y : α) (hij : i ≠ j) (hx : xs[i]? = some x) (hy : xs[j]? = some y) :
    ∃ g a0 a1 a2 b0 b1 b2 fx fy, A = some ⟨g, 0, none⟩ ∧ g ∈ fp ∧ g < w.heap.size ∧ (∀ k, w.frozen? ⟨g, k, none⟩ = false) ∧ K.own w [a0, a1, a2] x fx ∧ K.own w [b0, b1, b2] y fy ∧
      w.cell? ⟨g, i * 3, none⟩ = some a0 ∧ w.cell? ⟨g, i * 3 + 1, none⟩ = some a1 ∧ w.cell? ⟨g, i * 3 + 2, none⟩ = some a2 ∧ w.cell? ⟨g, j * 3, none⟩ = some b0 ∧ w.cell? ⟨g, j * 3 + 1, none⟩ = some b1 ∧ w.cell? ⟨g, j * 3 + 2, none⟩ = some b2 ∧
      ∀ w' : World, (∀ q ∈ fp, w'.heap[q]? = w.heap[q]?) → ∃ fp2, LO K e ((((((w'.setCell ⟨g, i * 3, none⟩ b0).setCell ⟨g, i * 3 + 1, none⟩ b1).setCell ⟨g, i * 3 + 2, none⟩ b2).setCell ⟨g, j * 3, none⟩ a0).setCell ⟨g, j * 3 + 1, none⟩ a1).setCell ⟨g, j * 3 + 2, none⟩ a2) A c ((xs.set i y).set j x) fp2 ∧ ∀ k ∈ fp2, k ∈ fp := by
  obtain ⟨css, fps, hr, hl1, hl2, hown, hfp, hnd⟩ := id h
  have hi : i < xs.length := (List.getElem?_eq_some_iff.1 hx).1
  have hj : j < xs.length := (List.getElem?_eq_some_iff.1 hy).1
  have hall : ∀ cs ∈ css, cs.length = 3 := by
    intro cs hcs
    obtain ⟨i, hi, rfl⟩ := List.getElem_of_mem hcs
    rw [← h3]
    exact K.rd_len (K.own_rd (hown i _ _ _ (List.getElem?_eq_getElem hi) (List.getElem?_eq_getElem (by omega)) (List.getElem?_eq_getElem (by omega))))
  rw [h3] at hr
  have hA : ∃ g, A = some ⟨g, 0, none⟩ := by
    rcases hr.2 with ⟨_, h2⟩ | ⟨g, cap, cur, h1, _⟩
    · omega
    · simp only [Value.slice.injEq] at h1; exact ⟨g, h1.1⟩
  obtain ⟨g, rfl⟩ := hA
  have hfp' : fp = g :: fps.flatten := by rw [hfp]; rfl
  have hnd2 : g ∉ fps.flatten ∧ fps.flatten.Nodup := by rw [hfp'] at hnd; exact List.nodup_cons.1 hnd
  have hg : g < w.heap.size := h.lt g (by rw [hfp']; simp)
  have ci : css[i]? = some css[i] := List.getElem?_eq_getElem (by omega)
  have cj : css[j]? = some css[j] := List.getElem?_eq_getElem (by omega)
  have fi : fps[i]? = some fps[i] := List.getElem?_eq_getElem (by omega)
  have fj : fps[j]? = some fps[j] := List.getElem?_eq_getElem (by omega)
  obtain ⟨a0, a1, a2, ea⟩ := len3 (hall css[i] (List.getElem_mem (by omega)))
  obtain ⟨b0, b1, b2, eb⟩ := len3 (hall css[j] (List.getElem_mem (by omega)))
  have oi := hown i _ x _ ci hx fi
  have oj := hown j _ y _ cj hy fj
  have hcell : ∀ (k : Nat) (cs : List Value) (q : Nat), css[k]? = some cs → k < xs.length → q < 3 → w.cell? ⟨g, k * 3 + q, none⟩ = cs[q]? := by
    intro k cs q hk hkx hq
    rw [World.ownsRow.cellAt hr (k * 3 + q) (by omega), flatten_at hall k q _ hk hq]
  have ha := fun q hq => hcell i _ q ci hi hq
  have hb := fun q hq => hcell j _ q cj hj hq
  rw [ea] at ha oi
  rw [eb] at hb oj
  refine ⟨g, a0, a1, a2, b0, b1, b2, fps[i], fps[j], rfl, by rw [hfp']; simp, hg, fun q => World.ownsRow.frozenAt hr q, oi, oj, ha 0 (by omega), ha 1 (by omega), ha 2 (by omega), hb 0 (by omega), hb 1 (by omega), hb 2 (by omega), fun w' hk => ?_⟩
  have hr' := ownsRow_keep (w' := w') hr (fun p hp => by injection hp with hp; subst hp; exact hk g (by rw [hfp']; simp))
  have hsub : ∀ (f0 : List Nat) (q0 : Nat), fps[q0]? = some f0 → ∀ r ∈ f0, r ∈ fp := fun f0 q0 hf0 r hr => by rw [hfp']; exact List.mem_cons_of_mem _ (List.mem_flatten.2 ⟨_, List.mem_of_getElem? hf0, hr⟩)
  have oi' := K.own_keep oi (fun r hr => hk r (hsub _ i fi r hr))
  have oj' := K.own_keep oj (fun r hr => hk r (hsub _ j fj r hr))
  have s1 := row_set3 hr' hall i (by omega) b0 b1 b2
  have hall1 : ∀ cs ∈ css.set i [b0, b1, b2], cs.length = 3 := fun cs hcs => by
    rcases List.mem_or_eq_of_mem_set hcs with hm | rfl
    · exact hall cs hm
    · rfl
  have s2 := row_set3 s1 hall1 j (by rw [List.length_set]; omega) a0 a1 a2
  have hblk : ∀ q, q ≠ g → ((((((w'.setCell ⟨g, i * 3, none⟩ b0).setCell ⟨g, i * 3 + 1, none⟩ b1).setCell ⟨g, i * 3 + 2, none⟩ b2).setCell ⟨g, j * 3, none⟩ a0).setCell ⟨g, j * 3 + 1, none⟩ a1).setCell ⟨g, j * 3 + 2, none⟩ a2).heap[q]? = w'.heap[q]? := fun q hq => by
    rw [Below.heap_setCell _ _ _ _ hq, Below.heap_setCell _ _ _ _ hq, Below.heap_setCell _ _ _ _ hq, Below.heap_setCell _ _ _ _ hq, Below.heap_setCell _ _ _ _ hq, Below.heap_setCell _ _ _ _ hq]
  obtain ⟨fp2, k1, k2⟩ := LO.swap_aux h3 hij hl1 hl2 (fun q cs z f h1 h2 h9 => K.own_keep (hown q cs z f h1 h2 h9) (fun r hr => hk r (hsub f q h9 r hr))) (hfp' ▸ hnd) hi hj oi' oj' s2 hblk
  exact ⟨fp2, k1, fun q hq => by rw [hfp']; exact k2 q hq⟩
end
/-! ### Arrays of items -/
theorem getI {d : Array ItD} {i : Nat} (h : i < d.size) : d.toList[i]? = some d[i]! := by
  rw [Array.getElem?_toList, getElem!_pos d i h]
  simp [h]
theorem swpL {d : Array ItD} (i j : Nat) : (swp d i j).toList = (d.toList.set i d[j]!).set j d[i]! := by
  unfold swp
  rw [Array.toList_setIfInBounds, Array.toList_setIfInBounds]
theorem swp_mem {d : Array ItD} {i j : Nat} (hi : i < d.size) (hj : j < d.size) {x : ItD} (h : x ∈ (swp d i j).toList) : x ∈ d.toList := by
  rw [swpL] at h
  rcases List.mem_or_eq_of_mem_set h with h | rfl
  · rcases List.mem_or_eq_of_mem_set h with h | rfl
    · exact h
    · exact List.mem_of_getElem? (getI hj)
  · exact List.mem_of_getElem? (getI hi)
end Go.Proofs.YtegoapdbpfhkiaaGreat

/- The stable sort of at most 14 items by their full bases. -/
namespace Go.Proofs.YtegoapdbpfhkiaaGreat
open Go.RowKit Go.Sort
set_option linter.unusedVariables false

set_option maxRecDepth 100000 in
set_option maxHeartbeats 2000000 in
theorem closOrd (w : World) (gb : Nat) (v : Value) (d : CoD) (vs us : List Value) (x y : ItD) {Ac Al : Option Addr} {nc cc nl cl : Nat} {r b p f : Int} {T : TypeId} (hv : v = .agg #[.slice Ac nc cc, .slice Al nl cl, .int .i64 r, .int .i64 b, .int .i64 p, .int .i64 f])
    (hb : Blk w gb #[.slice Ac nc cc, .slice Al nl cl, .int .i64 r, .int .i64 b, .int .i64 p, .int .i64 f] T) (h : kC.rd w v d) (hok : kC.ok d) (hd : CodeOk d) (hx : kdItem.rd w w.heap.size vs x) (hy : kdItem.rd w w.heap.size us y) (ix : ItOk d x) (iy : ItOk d y) :
    Calls Tryz.prog 52 #[kdItem.val vs, kdItem.val us, .pointer (some ⟨gb, 0, none⟩)] w fun e w' => e = .returned (.int .i64 (fullF d x - fullF d y)) ∧ Ext w w' := by
  obtain ⟨A1, c1, A2, c2, rfl, h1, h2⟩ := kdItem.open_ hx
  obtain ⟨D1, e1, D2, e2, rfl, k1, k2⟩ := kdItem.open_ hy
  rw [kdItem.val3, kdItem.val3]
  have gl := hb.lt
  obtain ⟨W0, hW0⟩ : ∃ W0, Hid (W0 = (w.alloc (.cells #[.slice A1 x.1.length c1, .slice A2 x.2.1.length c2, .bool x.2.2] 51)).alloc (.cells #[.slice D1 y.1.length e1, .slice D2 y.2.1.length e2, .bool y.2.2] 51)) := ⟨_, rfl⟩
  have X0 : Hid (Ext w W0) := by rw [hW0.out]; exact (Ext.alloc w _).trans (Ext.alloc _ _)
  have B1 : Hid (Blk W0 w.heap.size #[.slice A1 x.1.length c1, .slice A2 x.2.1.length c2, .bool x.2.2] 51) := by rw [hW0.out]; exact (Blk.new rfl _ _).alloc _
  have B2 : Hid (Blk W0 (w.heap.size + 1) #[.slice D1 y.1.length e1, .slice D2 y.2.1.length e2, .bool y.2.2] 51) := by rw [hW0.out]; exact Blk.new (by simp) _ _
  have FX := hide (fun dd os => ext_regrown (i.fullBase_m (grow (redrawn W0 dd) os) _ d _ x (kC.rd_ext h (X0.out.trans (ext_re W0 dd os))) hok hd (kdItem.rd_more (kdItem.rd_ext hx (X0.out.trans (ext_re W0 dd os)) (Nat.le_refl _)) (X0.out.trans (ext_re W0 dd os)).size) ix))
  have FY := hide (fun dd os => ext_regrown (i.fullBase_m (grow (redrawn W0 dd) os) _ d _ y (kC.rd_ext h (X0.out.trans (ext_re W0 dd os))) hok hd (kdItem.rd_more (kdItem.rd_ext hy (X0.out.trans (ext_re W0 dd os)) (Nat.le_refl _)) (X0.out.trans (ext_re W0 dd os)).size) iy))
  have bx := fullF_bd hd x ix.n3
  have by' := fullF_bd hd y iy.n3
  have c0_ := fun dd os => (hb.ext (X0.out.trans (ext_re W0 dd os))).cell
  have c1_ := fun dd os => (B1.out.ext (ext_re W0 dd os)).cell
  have c2_ := fun dd os => (B2.out.ext (ext_re W0 dd os)).cell
  rw [kdItem.val3] at FX FY
  rw [hv] at FX FY
  have a1 := h1.1; have a2 := h1.2.1; have a3 := h2.1; have a4 := h2.2.1
  have b1 := k1.1; have b2 := k1.2.1; have b3 := k2.1; have b4 := k2.2.1
  clear h hx hy h1 h2 k1 k2 hb ix iy hv
  generalize fullF d x = fx at *
  generalize fullF d y = fy at *
  generalize x.1.length = m1 at *
  generalize x.2.1.length = m2 at *
  generalize x.2.2 = m3 at *
  generalize y.1.length = q1 at *
  generalize y.2.1.length = q2 at *
  generalize y.2.2 = q3 at *
  have kw : IntKind.i64.wrap (fx - fy) = fx - fy := IntWalk.i64_in _ (by omega)
  go_enter Tryz.func52, Tryz.ntmps52
  go_wp2
  rw [← hW0.out]
  clear hW0
  refine wp_region_quiet_below (by kernel_rfl) (by kernel_rfl) ?_
  repeat (go_big_quiet_step (first | with_reducible exact FX.out _ _ | with_reducible exact FY.out _ _))
  refine wpQuiet_nil ?_
  intro _ hw'
  obtain ⟨⟨dq, osq⟩, hw''⟩ := hw'
  subst hw''
  have Y2 := hide (ext_re W0 dq osq)
  clear c0_ c1_ c2_
  generalize grow (redrawn W0 dq) osq = w2 at *
  go_wp2
  go_ret
  exact ⟨rfl, X0.out.trans Y2.out⟩

theorem Ext.cellAt {u w : World} {g : Nat} (h : Ext u w) (hg : u.heap.size ≤ g) (q : Nat) (z : Value) : Ext u (w.setCell ⟨g, q, none⟩ z) := Below.setCell h (by show u.heap.size ≤ g; exact hg) z
theorem Ext.set6d {u w : World} {g : Nat} (h : Ext u w) (hg : u.heap.size ≤ g) (q0 q1 q2 q3 q4 q5 : Nat) (z0 z1 z2 z3 z4 z5 : Value) :
    Ext u ((((((w.setCell ⟨g, q0, none⟩ z0).setCell ⟨g, q1, none⟩ z1).setCell ⟨g, q2, none⟩ z2).setCell ⟨g, q3, none⟩ z3).setCell ⟨g, q4, none⟩ z4).setCell ⟨g, q5, none⟩ z5).drew := by
  have h0 := h.cellAt hg q0 z0
  have h1 := h0.cellAt hg q1 z1
  have h2 := h1.cellAt hg q2 z2
  have h3 := h2.cellAt hg q3 z3
  have h4 := h3.cellAt hg q4 z4
  have h5 := h4.cellAt hg q5 z5
  exact h5.trans (Ext.drew _)

set_option maxRecDepth 100000 in
set_option maxHeartbeats 4000000 in
theorem i.insSort_m (w0 w : World) (gb : Nat) (v : Value) (d : CoD) (A : Option Addr) (c : Nat) (xs : List ItD) (fp : List Nat) {Ac Al : Option Addr} {nc cc nl cl : Nat} {r b p f : Int} {T : TypeId} (hv : v = .agg #[.slice Ac nc cc, .slice Al nl cl, .int .i64 r, .int .i64 b, .int .i64 p, .int .i64 f])
    (hb : Blk w0 gb #[.slice Ac nc cc, .slice Al nl cl, .int .i64 r, .int .i64 b, .int .i64 p, .int .i64 f] T) (h : kC.rd w0 v d) (hok : kC.ok d) (hd : CodeOk d) (hX : Ext w0 w) (ho : LO kdItem 51 w A c xs fp) (hf : ∀ i ∈ fp, w0.heap.size ≤ i) (h14 : xs.length ≤ 14) (hit : ∀ x ∈ xs, ItOk d x) :
    Calls Tryz.prog 113 #[.slice A xs.length c, .int .i64 0, .int .i64 xs.length, .func (.func 52) #[] #[.pointer (some ⟨gb, 0, none⟩)]] w fun e w' => e = .returned (.tuple #[]) ∧ ∃ fp2, LO kdItem 51 w' A c (sortS (ltF d) xs) fp2 ∧ (∀ i ∈ fp2, i ∈ fp) ∧ Ext w0 w' := by
  have cap := ho.cap
  have ca1 := cap.1; have ca2 := cap.2
  have HO := hide ho
  have HF := hide hf
  have HX0 := hide hX
  have HIT := hide hit
  have CC := hide (fun (wq : World) (xq : Ext w0 wq) (vs us : List Value) (x y : ItD) (hx : kdItem.rd wq wq.heap.size vs x) (hy : kdItem.rd wq wq.heap.size us y) (ix : ItOk d x) (iy : ItOk d y) => closOrd wq gb v d vs us x y hv (hb.ext xq) (kC.rd_ext h xq) hok hd hx hy ix iy)
  have IS := hide (insertionSort_list (ltF d) xs)
  clear cap ho hf hX hit hv hb h
  obtain ⟨n, hn⟩ : ∃ n, Hid (xs.length = n) := ⟨_, rfl⟩
  rw [hn.out] at ca1 h14 IS ⊢
  have SZ : Hid (xs.toArray.size = n) := by show _ = _; rw [← hn.out]; simp
  go_enter Tryz.func113, Tryz.ntmps113
  go_wp2
  go_loopw [8] (fun vi wr => ∃ (i : Nat) (dk : Array ItD) (fp' : List Nat), vi = .int .i64 i ∧ 1 ≤ i ∧ i ≤ n + 1 ∧ dk.size = n ∧ LO kdItem 51 wr A c dk.toList fp' ∧ (∀ q ∈ fp', q ∈ fp) ∧ (∀ x ∈ dk.toList, ItOk d x) ∧ Hid (insOuter (ltF d) 0 n i dk = insOuter (ltF d) 0 n (0 + 1) xs.toArray) ∧ Ext w0 wr) (fun vi _ => n + 1 - (intOf vi).toNat)
  case atStart => exact ⟨1, xs.toArray, fp, by go_num, Nat.le_refl _, by omega, SZ.out, HO.out, fun q h => h, HIT.out, rfl, HX0.out⟩
  case round =>
    obtain ⟨i, dk, fp', rfl, hi1, hin, hsz, ho, hfp, hit, HE, hx⟩ := hrel
    have OK := hide ho
    have FP := hide hfp
    have IT := hide hit
    have SK := hide hsz
    have HX := hide hx
    clear ho hfp hit hsz hx
    by_cases hlt : i < n
    · have hltz : (i : Int) < (n : Int) := by omega
      go_wp2
      go_loopw [9] (fun vj wr => ∃ (j : Nat) (dj : Array ItD) (fpj : List Nat), vj = .int .i64 j ∧ j ≤ i ∧ dj.size = n ∧ LO kdItem 51 wr A c dj.toList fpj ∧ (∀ q ∈ fpj, q ∈ fp) ∧ (∀ x ∈ dj.toList, ItOk d x) ∧ Hid (insInner (ltF d) 0 j dj = insInner (ltF d) 0 i dk) ∧ Ext w0 wr) (fun vj _ => (intOf vj).toNat)
      case atStart => exact ⟨i, dk, fp', rfl, Nat.le_refl _, SK.out, OK.out, FP.out, IT.out, rfl, HX.out⟩
      case round =>
        obtain ⟨j, dj, fpj, rfl, hji, hsz, ho, hfp, hit, HI, hx⟩ := hrel
        have OJ := hide ho
        have FJ := hide hfp
        have ITJ := hide hit
        have SJ := hide hsz
        have HXJ := hide hx
        clear ho hfp hit hsz hx
        by_cases hj0 : 0 < j
        · obtain ⟨jp, hjp⟩ : ∃ jp, Hid (j = jp + 1) := ⟨j - 1, by show _ = _; omega⟩
          have jp1 : jp < n := by have := hjp.out; omega
          have jpj : jp ≠ j := by have := hjp.out; omega
          have ex := getI (d := dj) (i := j) (by rw [SJ.out]; omega)
          have ep := getI (d := dj) (i := jp) (by rw [SJ.out]; omega)
          have ix := ITJ.out _ (List.mem_of_getElem? ex)
          have ip := ITJ.out _ (List.mem_of_getElem? ep)
          obtain ⟨g, a0, a1, a2, b0, b1, b2, fx, fy, rfl, gm, gl, fr, oi, oj, p0, p1, p2, q0, q1, q2, hsw⟩ := LO.swapE rfl OJ.out j jp _ _ (Ne.symm jpj) ex ep
          obtain ⟨Ax, cx, Ax', cx', ea, -, -⟩ := kdItem.open_ (kdItem.own_rd oi)
          obtain ⟨Ap, cp, Ap', cp', eb, -, -⟩ := kdItem.open_ (kdItem.own_rd oj)
          simp only [List.cons.injEq, and_true] at ea eb
          obtain ⟨rfl, rfl, rfl⟩ := ea
          obtain ⟨rfl, rfl, rfl⟩ := eb
          have gw := HF.out g (FJ.out g gm)
          have sw := swpL (d := dj) j jp
          have hsw2 := hide (fun (w' : World) (hk : Ext wr w') => hsw w' (fun q hq => hk.block q (OJ.out.lt q hq)))
          have CQ := hide (fun dd os => ext_regrown (CC.out (grow (redrawn wr dd) os) (HXJ.out.trans (ext_re wr dd os)) _ _ _ _ (kdItem.rd_more (kdItem.rd_ext (kdItem.own_rd oi) (ext_re wr dd os) (Nat.le_refl _)) (ext_re wr dd os).size) (kdItem.rd_more (kdItem.rd_ext (kdItem.own_rd oj) (ext_re wr dd os) (Nat.le_refl _)) (ext_re wr dd os).size) ix ip))
          rw [kdItem.val3, kdItem.val3] at CQ
          have LT : Hid (ltF d dj[j]! dj[jp]! = decide (fullF d dj[j]! - fullF d dj[jp]! < 0)) := by
            show _ = _
            unfold ltF
            rw [Bool.eq_iff_iff]
            simp only [decide_eq_true_eq]
            omega
          have STP : Hid (ltF d dj[j]! dj[jp]! = false → insInner (ltF d) 0 j dj = dj) := fun hl => by
            rw [hjp.out] at hl ⊢
            unfold insInner
            rw [show jp + 1 = jp + 1 from rfl, hl]
            simp
          have GO : Hid (ltF d dj[j]! dj[jp]! = true → insInner (ltF d) 0 j dj = insInner (ltF d) 0 jp (swp dj j jp)) := fun hl => by
            rw [hjp.out] at hl ⊢
            conv => lhs; unfold insInner
            rw [hl]
            simp
          have MEM := hide (fun (x : ItD) (hx : x ∈ (swp dj j jp).toList) => ITJ.out x (swp_mem (by rw [SJ.out]; omega) (by rw [SJ.out]; omega) hx))
          have SW := hide sw
          have SS : Hid ((swp dj j jp).size = n) := by show _ = _; rw [size_swp]; exact SJ.out
          have hwp : IntKind.i64.wrap ((j : Int) - 1) = (jp : Int) := by rw [IntWalk.i64_in _ (by omega)]; have := hjp.out; omega
          have i1 : (j : Int) < n := by omega
          have i2 : (jp : Int) < n := by omega
          have i3 : (0 : Int) < (j : Int) := by omega
          have p0_ := fun dd os => cell_regrown p0 dd os
          have p1_ := fun dd os => cell_regrown p1 dd os
          have p2_ := fun dd os => cell_regrown p2 dd os
          have q0_ := fun dd os => cell_regrown q0 dd os
          have q1_ := fun dd os => cell_regrown q1 dd os
          have q2_ := fun dd os => cell_regrown q2 dd os
          obtain ⟨df, hdf⟩ : ∃ df, Hid (fullF d dj[j]! - fullF d dj[jp]! = df) := ⟨_, rfl⟩
          rw [hdf.out] at CQ LT
          have FRE := hide fr
          have P := hide (And.intro p0 (And.intro p1 (And.intro p2 (And.intro q0 (And.intro q1 q2)))))
          clear ex ep oi oj ix ip hsw sw p0 p1 p2 q0 q1 q2 fr gm
          generalize dj[j]!.1.length = x1 at *
          generalize dj[j]!.2.1.length = x2 at *
          generalize dj[j]!.2.2 = x3 at *
          generalize dj[jp]!.1.length = y1 at *
          generalize dj[jp]!.2.1.length = y2 at *
          generalize dj[jp]!.2.2 = y3 at *
          generalize dj[j]! = xj at *
          generalize dj[jp]! = xp at *
          go_wp2_with fail
          refine wp_region_quiet_below (by kernel_rfl) (by kernel_rfl) ?_
          repeat (go_big_quiet_step (exact CQ.out _ _))
          refine wpQuiet_nil ?_
          intro _ hw'
          obtain ⟨⟨dq, osq⟩, hw''⟩ := hw'
          subst hw''
          have Y5 := hide (ext_re wr dq osq)
          clear p0_ p1_ p2_ q0_ q1_ q2_ CQ
          generalize grow (redrawn wr dq) osq = w5 at *
          by_cases hl : df < 0
          · have HL : Hid (ltF d xj xp = true) := by show _ = _; rw [LT.out]; simpa using hl
            have G2 := hide (GO.out HL.out)
            obtain ⟨t0, t1, t2, t3, t4, t5⟩ := P.out
            have u0 := (Y5.out.cell (p := ⟨g, j * 3, none⟩) gl).trans t0
            have u1 := (Y5.out.cell (p := ⟨g, j * 3 + 1, none⟩) gl).trans t1
            have u2 := (Y5.out.cell (p := ⟨g, j * 3 + 2, none⟩) gl).trans t2
            have u3 := (Y5.out.cell (p := ⟨g, jp * 3, none⟩) gl).trans t3
            have u4 := (Y5.out.cell (p := ⟨g, jp * 3 + 1, none⟩) gl).trans t4
            have u5 := (Y5.out.cell (p := ⟨g, jp * 3 + 2, none⟩) gl).trans t5
            have fz : ∀ k, w5.frozen? ⟨g, k, none⟩ = false := fun k => (Y5.out.frozen (p := ⟨g, k, none⟩) gl).trans (FRE.out k)
            have f0 := fz (j * 3); have f1 := fz (j * 3 + 1); have f2 := fz (j * 3 + 2); have f3 := fz (jp * 3); have f4 := fz (jp * 3 + 1); have f5 := fz (jp * 3 + 2)
            have XD := hide (HXJ.out.trans Y5.out)
            obtain ⟨fp2, l2, s2⟩ := hsw2.out w5 Y5.out
            have L2 := hide (l2.ext (Ext.drew _))
            have S2 := hide s2
            clear t0 t1 t2 t3 t4 t5 l2 s2 fz hsw2 LT STP GO
            go_wp2_with fail
            have YE := hide (XD.out.set6d gw (j * 3) (j * 3 + 1) (j * 3 + 2) (jp * 3) (jp * 3 + 1) (jp * 3 + 2) (.slice Ap y1 cp) (.slice Ap' y2 cp') (.bool y3) (.slice Ax x1 cx) (.slice Ax' x2 cx') (.bool x3))
            go_region
            all_goals
              clear u0 u1 u2 u3 u4 u5 f0 f1 f2 f3 f4 f5
              generalize ((((((w5.setCell ⟨g, j * 3, none⟩ (.slice Ap y1 cp)).setCell ⟨g, j * 3 + 1, none⟩ (.slice Ap' y2 cp')).setCell ⟨g, j * 3 + 2, none⟩ (.bool y3)).setCell ⟨g, jp * 3, none⟩ (.slice Ax x1 cx)).setCell ⟨g, jp * 3 + 1, none⟩ (.slice Ax' x2 cx')).setCell ⟨g, jp * 3 + 2, none⟩ (.bool x3)).drew = w9 at *
              go_wp2
              go_roundw
              case rel => exact ⟨jp, swp dj j jp, fp2, by rfl, by have := hjp.out; omega, SS.out, by rw [SW.out]; exact L2.out, fun q hq => FJ.out q (S2.out q hq), MEM.out, G2.out.symm.trans HI.out, YE.out⟩
              case measure => simp [intOf]; have := hjp.out; omega
          · have HL : Hid (ltF d xj xp = false) := by show _ = _; rw [LT.out]; simpa using hl
            have G2 := hide (STP.out HL.out)
            have NX : Hid (insOuter (ltF d) 0 n (i + 1) dj = insOuter (ltF d) 0 n (0 + 1) xs.toArray) := by
              show _ = _
              rw [← HE.out]
              conv => rhs; unfold insOuter
              rw [if_pos hlt, ← HI.out, G2.out]
            clear hsw2 LT STP GO P
            go_wp2
            go_roundw
            case rel => exact ⟨i + 1, dj, fpj, by go_num, by omega, by omega, SJ.out, OJ.out.ext Y5.out, FJ.out, ITJ.out, NX, HXJ.out.trans Y5.out⟩
            case measure => simp [intOf]; omega
        · have ej : j = 0 := by omega
          subst ej
          have NX : Hid (insOuter (ltF d) 0 n (i + 1) dj = insOuter (ltF d) 0 n (0 + 1) xs.toArray) := by
            show _ = _
            rw [← HE.out]
            conv => rhs; unfold insOuter
            rw [if_pos hlt, ← HI.out]
            rfl
          go_wp2_with fail
          refine wp_region_quiet_below (by kernel_rfl) (by kernel_rfl) ?_
          repeat (go_big_quiet_step (fail))
          refine wpQuiet_nil ?_
          intro _ hw'
          obtain ⟨⟨dq, osq⟩, hw''⟩ := hw'
          subst hw''
          have Y5 := hide (ext_re wr dq osq)
          generalize grow (redrawn wr dq) osq = w5 at *
          go_wp2
          go_roundw
          case rel => exact ⟨i + 1, dj, fpj, by go_num, by omega, by omega, SJ.out, OJ.out.ext Y5.out, FJ.out, ITJ.out, NX, HXJ.out.trans Y5.out⟩
          case measure => simp [intOf]; omega
    · have hltz : ¬ (i : Int) < (n : Int) := by omega
      have EN : Hid (dk.toList = sortS (ltF d) xs) := by
        show _ = _
        have h8 := HE.out
        conv at h8 => lhs; unfold insOuter
        rw [if_neg hlt] at h8
        have h9 : insertionSort (ltF d) xs.toArray 0 n = (sortS (ltF d) xs).toArray := IS.out
        unfold insertionSort at h9
        rw [h8, h9]
      rw [EN.out] at OK
      go_wp2
      go_end0
      exact ⟨rfl, fp', OK.out, FP.out, HX.out⟩
end Go.Proofs.YtegoapdbpfhkiaaGreat

/- OrderForLate by the program. -/
namespace Go.Proofs.YtegoapdbpfhkiaaGreat
open Go.RowKit Go.Sort
set_option linter.unusedVariables false

theorem sortS_mem {α : Type} [Inhabited α] (lt : α → α → Bool) {xs : List α} {x : α} (h : x ∈ sortS lt xs) : x ∈ xs := by
  have hi : ∀ (out : List α) (y : α), x ∈ insS lt out y → x ∈ out ∨ x = y := by
    intro out y h
    unfold insS insAt at h
    rcases List.mem_append.1 h with h | h
    · exact .inl (List.mem_of_mem_take h)
    · rcases List.mem_cons.1 h with h | h
      · exact .inr h
      · exact .inl (List.mem_of_mem_drop h)
  have hf : ∀ (ys out : List α), x ∈ ys.foldl (insS lt) out → x ∈ out ∨ x ∈ ys := by
    intro ys
    induction ys with
    | nil => intro out h; exact .inl h
    | cons y t ih =>
      intro out h
      rcases ih _ h with h | h
      · rcases hi _ _ h with h | rfl
        · exact .inl h
        · exact .inr (by simp)
      · exact .inr (by simp [h])
  rcases hf xs [] h with h | h
  · simp at h
  · exact h
theorem sortS_len {α : Type} [Inhabited α] (lt : α → α → Bool) (xs : List α) : (sortS lt xs).length = xs.length := by
  have : ∀ (ys out : List α), (ys.foldl (insS lt) out).length = out.length + ys.length := by
    intro ys
    induction ys with
    | nil => intro out; simp
    | cons y t ih => intro out; rw [List.foldl_cons, ih, insS_len]; simp; omega
  unfold sortS
  rw [this]
  simp
theorem itemsB_sub {xs ys : List ItD} (h : itemsB xs = true) (hl : ys.length = xs.length) (hm : ∀ y ∈ ys, itemB y = true) : itemsB ys = true := by
  simp only [itemsB, Bool.and_eq_true, List.all_eq_true, decide_eq_true_eq] at h ⊢
  exact ⟨hm, by rw [hl]; exact h.2⟩
theorem itemsB_early {xs : List ItD} (h : itemsB xs = true) : itemsB (xs.map earlyD) = true := by
  refine itemsB_sub h (by simp) (fun y hy => ?_)
  obtain ⟨x, hx, rfl⟩ := List.mem_map.1 hy
  simp only [itemsB, Bool.and_eq_true, List.all_eq_true] at h
  have := h.1 x hx
  exact this
theorem itemsB_sort {d : CoD} {xs : List ItD} (h : itemsB xs = true) : itemsB (sortS (ltF d) (xs.map earlyD)) = true := by
  have h1 := itemsB_early h
  refine itemsB_sub h1 (sortS_len _ _) (fun y hy => ?_)
  simp only [itemsB, Bool.and_eq_true, List.all_eq_true] at h1
  exact h1.1 y (sortS_mem _ hy)
theorem itemsB_order {d : CoD} {xs : List ItD} (h : itemsB xs = true) : itemsB (orderL d xs) = true := itemsB_late (itemsB_sort h)
theorem orderL_len (d : CoD) (xs : List ItD) : (orderL d xs).length = xs.length := by unfold orderL; rw [lateL_len, sortS_len, List.length_map]
theorem itOk_early {d : CoD} {x : ItD} (h : ItOk d x) : ItOk d (earlyD x) := ⟨h.n1, h.n3, h.ml, h.kn⟩
theorem kIt.ofOwn {w : World} {A : Option Addr} {c lo n : Nat} {xs : List ItD} {fp : List Nat} (h : LO kdItem 51 w A c xs fp) (hf : ∀ i ∈ fp, lo ≤ i) (hn : n = xs.length) : kIt.fr w lo w.heap.size (.slice A n c) xs := by
  subst hn
  exact ⟨[.slice A xs.length c], fp, rfl, ⟨A, c, rfl, h⟩, fun i hi => ⟨hf i hi, h.lt i hi⟩⟩

set_option maxRecDepth 100000 in
set_option maxHeartbeats 2000000 in
theorem i.stable_m (w0 w : World) (gb : Nat) (v : Value) (d : CoD) (A : Option Addr) (c : Nat) (xs : List ItD) (fp : List Nat) {Ac Al : Option Addr} {nc cc nl cl : Nat} {r b p f : Int} {T : TypeId} (hv : v = .agg #[.slice Ac nc cc, .slice Al nl cl, .int .i64 r, .int .i64 b, .int .i64 p, .int .i64 f])
    (hb : Blk w0 gb #[.slice Ac nc cc, .slice Al nl cl, .int .i64 r, .int .i64 b, .int .i64 p, .int .i64 f] T) (h : kC.rd w0 v d) (hok : kC.ok d) (hd : CodeOk d) (hX : Ext w0 w) (ho : LO kdItem 51 w A c xs fp) (hf : ∀ i ∈ fp, w0.heap.size ≤ i) (h14 : xs.length ≤ 14) (hit : ∀ x ∈ xs, ItOk d x) :
    Calls Tryz.prog 51 #[.slice A xs.length c, .func (.func 52) #[] #[.pointer (some ⟨gb, 0, none⟩)]] w fun e w' => e = .returned (.tuple #[]) ∧ ∃ fp2, LO kdItem 51 w' A c (sortS (ltF d) xs) fp2 ∧ (∀ i ∈ fp2, i ∈ fp) ∧ Ext w0 w' := by
  have IS := hide (i.insSort_m w0 w gb v d A c xs fp hv hb h hok hd hX ho hf h14 hit)
  have cap := ho.cap
  have ca1 := cap.1; have ca2 := cap.2
  clear hv hb h hok hd hX ho hf hit cap
  have ST : Hid (Calls Tryz.prog 87 #[.slice A xs.length c, .int .i64 xs.length, .func (.func 52) #[] #[.pointer (some ⟨gb, 0, none⟩)]] w fun e w' => e = .returned (.tuple #[]) ∧ ∃ fp2, LO kdItem 51 w' A c (sortS (ltF d) xs) fp2 ∧ (∀ i ∈ fp2, i ∈ fp) ∧ Ext w0 w') := by
    show Calls _ _ _ _ _
    generalize xs.length = n at *
    have n20 : ¬ (20 : Int) ≤ (n : Int) := by omega
    have n21 : ¬ (20 : Int) < (n : Int) := by omega
    go_enter Tryz.func87, Tryz.ntmps87
    go_wp2
    refine wp_loop_rounds 1 ?_
    rw [rounds_succ]
    go_wp2_with (go_at_call 113; refine IS.out.mono ?_; rintro e w1 ⟨rfl, fp2, l2, s2, x2⟩; have L2 := hide l2; have S2 := hide s2; have X2 := hide x2; clear l2 s2 x2)
    refine wp_loop_rounds 1 ?_
    rw [rounds_succ]
    go_wp2
    go_end0
    exact ⟨rfl, fp2, L2.out, S2.out, X2.out⟩
  generalize xs.length = n at *
  clear IS
  go_enter Tryz.func51, Tryz.ntmps51
  go_wp2_with fail
  refine ST.out.mono ?_
  rintro e w1 ⟨rfl, fp2, l2, s2, x2⟩
  have L2 := hide l2; have S2 := hide s2; have X2 := hide x2
  clear l2 s2 x2 ST
  go_wp2
  go_end0
  exact ⟨rfl, fp2, L2.out, S2.out, X2.out⟩

set_option maxRecDepth 100000 in
set_option maxHeartbeats 4000000 in
theorem i.OrderForLate_law (w : World) (v v1 : Value) (d : CoD) (xs : List ItD) (h : kC.rd w v d) (hok : kC.ok d) (hx : kIt.rd w v1 xs) (hox : kIt.ok xs) :
    Calls Tryz.prog 22 #[v, v1] w fun e w' => ∃ v0, e = .returned (.tuple #[v0, .bool (orderF d xs).2]) ∧ kIt.fr w' w.heap.size w'.heap.size v0 (orderF d xs).1 ∧ kIt.ok (orderF d xs).1 ∧ Ext w w' := by
  obtain ⟨Ac, nc, cc, Al, nl, cl, rr, b, p, f, rfl⟩ := kC.shape h
  obtain ⟨A, c, rfl, hl⟩ := kIt.lr hx
  have hw : wtL kdItem xs ≤ 1048576 := hox
  have hlen := Nat.le_trans (wtL_len kdItem xs) hw
  have a1 := hl.1; have a2 := hl.2.1
  obtain ⟨W0, hW0⟩ : ∃ W0, Hid (W0 = w.alloc (.cells #[.slice Ac nc cc, .slice Al nl cl, .int .i64 rr, .int .i64 b, .int .i64 p, .int .i64 f] 26)) := ⟨_, rfl⟩
  have X0 : Hid (Ext w W0) := by rw [hW0.out]; exact Ext.alloc w _
  have B0 : Hid (Blk W0 w.heap.size #[.slice Ac nc cc, .slice Al nl cl, .int .i64 rr, .int .i64 b, .int .i64 p, .int .i64 f] 26) := by rw [hW0.out]; exact Blk.new rfl _ _
  have zW := X0.out.size
  have PG := hide (i.isProgramme_m W0 _ d A c w.heap.size xs (kC.rd_ext h X0.out) hok (hl.ext X0.out (Nat.le_refl _)) X0.out.size hw)
  have CI := hide (fun (wq : World) (xq : Ext w wq) => i.copyItems_any wq A c w.heap.size xs (hl.ext xq (Nat.le_refl _)) xq.size hw)
  have OF : Hid (orderF d xs = if progB d xs then (orderL d xs, true) else ([], false)) := rfl
  have ST := hide (fun (hp : progB d xs = true) (wq : World) (xq : Ext W0 wq) (A9 : Option Addr) (c9 : Nat) (fp : List Nat) (ho : LO kdItem 51 wq A9 c9 (xs.map earlyD) fp) (hf : ∀ i ∈ fp, W0.heap.size ≤ i) => i.stable_m W0 wq w.heap.size _ d A9 c9 (xs.map earlyD) fp rfl B0.out (kC.rd_ext h X0.out) hok (codeB_ok (progB_code hp).1) xq ho hf (by rw [List.length_map]; exact (progB_ls hp).n) (fun x hx => by
    obtain ⟨y, hy, rfl⟩ := List.mem_map.1 hx
    obtain ⟨k, hk⟩ := List.getElem?_of_mem hy
    exact itOk_early ((progB_ls hp).it k y hk)))
  have ML := hide (fun (hp : progB d xs = true) (wq : World) (A9 : Option Addr) (c9 : Nat) (h9 : LR kdItem wq wq.heap.size A9 c9 (sortS (ltF d) (xs.map earlyD))) => i.markLate_m wq A9 c9 wq.heap.size _ h9 (Nat.le_refl _) (itemsB_wt1 (itemsB_sort (progB_code hp).2)))
  have OB := hide (fun (hp : progB d xs = true) => itemsB_wt1 (itemsB_order (d := d) (progB_code hp).2))
  have SL : Hid ((sortS (ltF d) (xs.map earlyD)).length = xs.length) := by show _ = _; rw [sortS_len, List.length_map]
  have EL : Hid ((xs.map earlyD).length = xs.length) := List.length_map _
  have OL := hide (orderL_len d xs)
  have OE : Hid (lateL (sortS (ltF d) (xs.map earlyD)) = orderL d xs) := rfl
  rw [SL.out, OE.out] at ML
  rw [EL.out] at ST
  clear h hx hl hox hw
  obtain ⟨F, hF⟩ : ∃ F, Hid (orderF d xs = F) := ⟨_, rfl⟩
  rw [hF.out] at OF ⊢
  obtain ⟨n, hn⟩ : ∃ n, Hid (xs.length = n) := ⟨_, rfl⟩
  rw [hn.out] at a1 hlen PG CI ST ML OL ⊢
  go_enter Tryz.func22, Tryz.ntmps22
  go_wp2_with fail
  rw [← hW0.out]
  clear hW0
  refine PG.out.mono ?_
  rintro e w1 ⟨rfl, x1⟩
  have Y1 := hide x1
  clear x1 PG
  cases hp : progB d xs
  · have HF : Hid (F = ([], false)) := by show _ = _; rw [OF.out, hp]; rfl
    clear hp OF ST ML OB
    go_wp2
    go_ret2
    rw [HF.out]
    exact ⟨_, rfl, kIt.fr_nil _ _ _, Nat.zero_le _, X0.out.trans Y1.out⟩
  have HF : Hid (F = (orderL d xs, true)) := by show _ = _; rw [OF.out, hp]; rfl
  have SQ := hide (ST.out hp)
  have MQ := hide (ML.out hp)
  have OQ := hide (OB.out hp)
  clear hp OF ST ML OB
  go_wp2_with fail
  refine (CI.out w1 (X0.out.trans Y1.out)).mono ?_
  rintro e w2 ⟨A1, c1, fp, rfl, ho, hf, x2⟩
  have HO : Hid (LO kdItem 51 w2 A1 c1 (mapTo earlyD xs 0) fp) := by rw [mapTo_zero]; exact ho
  have z1 := Y1.out.size
  have HFP : Hid (∀ i ∈ fp, W0.heap.size ≤ i) := fun i hi => by have := hf i hi; omega
  have HX := hide (Y1.out.trans x2)
  have cap := ho.cap
  rw [hn.out] at cap
  have ca1 := cap.1; have ca2 := cap.2
  clear ho hf x2 CI cap
  go_wp2
  go_loopw [16] (fun i wr => ∃ (k : Nat), k ≤ n ∧ i = .int .i64 k ∧ LO kdItem 51 wr A1 c1 (mapTo earlyD xs k) fp ∧ Ext W0 wr) (fun i _ => n - (intOf i).toNat)
  case atStart => exact ⟨0, Nat.zero_le _, rfl, HO.out, HX.out⟩
  case round =>
    obtain ⟨k, hk, rfl, ho, hx⟩ := hrel
    clear HO HX
    by_cases hlt : k < n
    · obtain ⟨x, hxk⟩ : ∃ x, Hid (xs[k]? = some x) := get_exP xs k (by rw [hn.out]; exact hlt)
      obtain ⟨g, cs, f0, rfl, own, sub, mem, glt, cell, free, put⟩ := LO.put ho k x (mapTo_at earlyD xs k x hxk.out)
      have gw := HFP.out g mem
      have OLx := kdItem.own_late own false
      have q2 : wr.cell? ⟨g, k * 3 + 2, none⟩ = some (.bool x.2.2) := cell 2 _ OLx.1
      have qf := free (k * 3 + 2)
      have P2 := put wr 2 (.bool false) _ (by decide) OLx.2 (TchF.refl _ _)
      have e2 : (x.1, x.2.1, false) = earlyD x := rfl
      rw [e2, mapTo_set earlyD xs k x hxk.out] at P2
      have P2' : Hid (LO kdItem 51 (wr.setCell ⟨g, k * 3 + 2, none⟩ (.bool false)) (some ⟨g, 0, none⟩) c1 (mapTo earlyD xs (k + 1)) fp) := P2
      have YX := hide (hx.cellAt gw (k * 3 + 2) (.bool false))
      have i1 : (k : Int) < n := by omega
      clear ho hx own sub cell free put OLx P2 e2
      go_wp2
      generalize wr.setCell ⟨g, k * 3 + 2, none⟩ (.bool false) = w6 at *
      go_roundw
      case rel => exact ⟨k + 1, by omega, by go_num, P2'.out, YX.out⟩
      case measure => simp [intOf]; omega
    · have ek : n = k := by omega
      subst ek
      rw [mapTo_all earlyD xs n (by rw [hn.out]; omega)] at ho
      have HO := hide ho
      have HX := hide hx
      clear ho hx
      go_wp2_with fail
      refine (SQ.out wr HX.out A1 c1 fp HO.out HFP.out).mono ?_
      rintro e w5 ⟨rfl, fp2, l2, s2, x5⟩
      have L2 := hide l2.rd
      have X5 := hide x5
      have z5 := x5.size
      clear l2 s2 x5 SQ
      go_wp2_with fail
      refine (MQ.out w5 A1 c1 L2.out).mono ?_
      rintro e w6 ⟨A6, c6, fp6, rfl, l6, s6, x6⟩
      have L6 := hide l6
      have S6 := hide s6
      have X6 := hide x6
      clear l6 s6 x6 MQ
      go_wp2
      go_ret2
      rw [HF.out]
      exact ⟨_, rfl, kIt.ofOwn L6.out (fun i hi => by have := S6.out i hi; omega) OL.out.symm, OQ.out, X0.out.trans (X5.out.trans X6.out)⟩
end Go.Proofs.YtegoapdbpfhkiaaGreat
