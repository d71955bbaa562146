/- Clean items: no marks on them. -/
import Derived.Test.YtofmfagdaiphaaaRL
import Derived.Test.YtofmfagdaiphaaaGQ
import Derived.Deep.OwnRows
namespace Go.Proofs.Ytofmfagdaiphaaa
open Go.RowKit Go.Sort
set_option linter.unusedVariables false

theorem OwnI.made (w : World) {lo : Nat} (n : Nat) (hn : n ≤ 1048576) (hlo : lo ≤ w.heap.size) : OwnI 3 (w.alloc (.cells (madeCells #[.int .i64 0] n) 3)) lo (some ⟨w.heap.size, 0, none⟩) n n (List.replicate n 0) := by
  have h := World.ownsRow_lit (e := 3) (size := 1) (base := lo) w (madeCells #[.int .i64 0] n) n hlo (by unfold maxLen; omega) (by simp [madeCells])
  rw [made_zeroR] at h
  exact h
theorem item_done {w w4 : World} {d : ItD} {A A' : Option Addr} {c c' : Nat} {f1 f2 : List Nat} {H : Nat} (u0 u1 u2 : Value) (h1 : LO kdS 9 w4 A c d.1 f1) (h2 : LO kdInt 3 w4 A' c' d.2.1 f2) (hd : ∀ i ∈ f1, i ∉ f2) (hf1 : ∀ i ∈ f1, H < i) (hf2 : ∀ i ∈ f2, H < i) (x : Ext w w4) (hH : w.heap.size ≤ H) :
    ∃ f, kdItem.own (((w4.setCell ⟨H, 0, none⟩ u0).setCell ⟨H, 1, none⟩ u1).setCell ⟨H, 2, none⟩ u2) [.slice A d.1.length c, .slice A' d.2.1.length c', .bool d.2.2] d f ∧ (∀ i ∈ f, w.heap.size ≤ i) ∧ Ext w (((w4.setCell ⟨H, 0, none⟩ u0).setCell ⟨H, 1, none⟩ u1).setCell ⟨H, 2, none⟩ u2) := by
  have hk : ∀ i, H < i → (((w4.setCell ⟨H, 0, none⟩ u0).setCell ⟨H, 1, none⟩ u1).setCell ⟨H, 2, none⟩ u2).heap[i]? = w4.heap[i]? := by
    intro i hi
    rw [Below.heap_setCell _ _ _ _ (by simp; omega), Below.heap_setCell _ _ _ _ (by simp; omega), Below.heap_setCell _ _ _ _ (by simp; omega)]
  refine ⟨_, kdItem.mkOwn (h1.keep fun i hi => hk i (hf1 i hi)) (h2.keep fun i hi => hk i (hf2 i hi)) hd, fun i hi => ?_, Below.setCell (Below.setCell (Below.setCell x (by simpa using hH) _) (by simpa using hH) _) (by simpa using hH) _⟩
  rcases List.mem_append.1 hi with h | h
  · have := hf1 i h; omega
  · have := hf2 i h; omega
def cleanD (x : ItD) : ItD := (x.1, List.replicate x.1.length 0, x.2.2)

set_option maxRecDepth 100000 in
set_option maxHeartbeats 4000000 in
theorem s.itClean_to (w : World) (vs : List Value) (d : ItD) (h : kdItem.rd w w.heap.size vs d) (hwt : kdItem.wt d ≤ 1048576) :
    Calls Try.prog 72 #[kdItem.val vs] w fun e w' => ∃ vs' f, e = .returned (kdItem.val vs') ∧ kdItem.own w' vs' (cleanD d) f ∧ (∀ i ∈ f, w.heap.size ≤ i) ∧ Ext w w' := by
  obtain ⟨A, c, A', c', rfl, h1, h2⟩ := kdItem.open_ h
  obtain ⟨k1, k2, _⟩ := kdItem.wt_le hwt
  have LS := hide h1.lenS
  have a1 := h1.1; have a2 := h1.2.1; have a3 := h2.1; have a4 := h2.2.1
  have H1 := hide h1
  clear h h1 h2 hwt
  rw [kdItem.val3]
  obtain ⟨n, hn⟩ : ∃ n, Hid (d.1.length = n) := ⟨_, rfl⟩
  obtain ⟨n', hn'⟩ : ∃ n', Hid (d.2.1.length = n') := ⟨_, rfl⟩
  obtain ⟨q, hq⟩ : ∃ q, Hid (d.2.2 = q) := ⟨_, rfl⟩
  rw [hn.out, hn'.out, hq.out]
  rw [hn.out] at k1 a1
  rw [hn'.out] at k2 a3
  obtain ⟨W0, hW0⟩ : ∃ W0, Hid (W0 = (w.alloc (.cells #[.slice A n c, .slice A' n' c', .bool q] 50)).alloc (.cells #[.slice none 0 0, .slice none 0 0, .bool false] 50)) := ⟨_, rfl⟩
  have X : Hid (Ext w W0) := by rw [hW0.out]; exact (Ext.alloc w _).trans (Ext.alloc _ _)
  have B0 : Hid (Blk W0 w.heap.size #[.slice A n c, .slice A' n' c', .bool q] 50) := by rw [hW0.out]; exact (Blk.new rfl _ _).alloc _
  have B1 : Hid (Blk W0 (w.heap.size + 1) #[.slice none 0 0, .slice none 0 0, .bool false] 50) := by rw [hW0.out]; exact Blk.new (by simp) _ _
  have z0 : w.heap.size + 1 < W0.heap.size := B1.out.lt
  have CS := hide (fun (wq : World) (xq : Ext W0 wq) => s.l1OwnS_any A c w.heap.size d.1 wq (H1.out.ext (X.out.trans xq) (Nat.le_refl _)) (by have := (X.out.trans xq).size; omega) (by rw [hn.out]; exact k1))
  rw [hn.out] at CS
  have cB := B0.out.cell
  have MKR := hide (fun w => run_make_row' (P := Try.prog) 42 3 (.int .i64 0) 8 Try.underlying42 (by kernel_rfl) rfl .i64 .i64 n (by omega) (by omega) w)
  have mkr := MKR.out
  go_enter Try.func72, Try.ntmps72
  go_wp2
  rw [← hW0.out]
  clear hW0
  go_region_held3 (fun w' => ∀ i, w'.cell? ⟨w.heap.size, i, none⟩ = #[Value.slice A n c, .slice A' n' c', .bool q][i]?)
    (first | with_reducible exact (B0.out.ext Y3.out).cell | with_reducible exact (B0.out.ext (Ext.drew _)).cell | with_reducible exact ((B0.out.alloc _).ext (Ext.drew _)).cell | with_reducible exact ((B0.out.ext Y3.out).alloc _).cell | with_reducible exact (((((B0.out.ext Y3.out).alloc _).far (by simp) _).far (by simp) _).far (by simp) _).cell | with_reducible exact ((((B0.out.ext Y3.out).far (by simp) _).far (by simp) _).far (by simp) _).cell)
    ((go_at_call 89; refine (CS.out _ (by (first | with_reducible exact Ext.drew _ | with_reducible exact (Ext.alloc _ _).trans (Ext.drew _) | with_reducible exact (Ext.drew _).trans (Ext.alloc _ _) | exact Ext.refl _))).mono ?_; rintro e w3 ⟨A3, c3, rfl, o3, x3⟩; have Y3 : Hid (Ext W0 w3) := Ext.trans (by (first | with_reducible exact Ext.drew _ | with_reducible exact (Ext.alloc _ _).trans (Ext.drew _) | with_reducible exact (Ext.drew _).trans (Ext.alloc _ _) | exact Ext.refl _)) x3; have c14 := (B1.out.ext Y3.out).cell; have f14 := (B1.out.ext Y3.out).free; have c15 := ((B1.out.ext Y3.out).alloc (.cells (madeCells #[.int .i64 0] n) 3)).cell; have f15 := ((B1.out.ext Y3.out).alloc (.cells (madeCells #[.int .i64 0] n) 3)).free))
  all_goals
    have l3 : LO kdS 9 w3 A3 c3 d.1 (A3.map (·.block)).toList := Own.loS o3 LS.out
    have z3 := Y3.out.size
    have f3 : ∀ i ∈ (A3.map (·.block)).toList, i < w3.heap.size := l3.lt
    have g3 := Own.fpLoS o3
    go_wp2
  · refine bodyPost_ret (v := .agg #[.slice A3 n c3, .slice (some ⟨w3.heap.size, 0, none⟩) n n, .bool q]) (by simp [results, Try.results72, go_sem, c15]) rfl ?_
    have hm := OwnI.made w3 (lo := w3.heap.size) n k1 (Nat.le_refl _)
    obtain ⟨f, k1', k2', k3'⟩ := item_done (d := cleanD d) (w := w) (H := w.heap.size + 1) (.slice A3 n c3) (.slice (some ⟨w3.heap.size, 0, none⟩) n n) (.bool q) (l3.ext (Ext.alloc w3 (.cells (madeCells #[.int .i64 0] n) 3))) (by show LO kdInt _ _ _ _ (List.replicate d.1.length 0) _; rw [hn.out]; exact hm.lo_) (fun i hi hi' => by have := f3 i hi; simp at hi'; omega) (fun i hi => by have := g3 i hi; simp at this; omega) (fun i hi => by simp at hi; omega) ((X.out.trans Y3.out).trans (Ext.alloc w3 _)) (by omega)
    simp only [cleanD, List.length_replicate, hn.out, hq.out] at k1'
    exact ⟨_, f, rfl, by simpa only [cleanD, hn.out, hq.out] using k1', k2', k3'⟩
  · refine bodyPost_ret (v := .agg #[.slice A3 n c3, .slice (some ⟨W0.heap.size, 0, none⟩) n n, .bool q]) (by simp [results, Try.results72, go_sem, c14]) rfl ?_
    have hm := OwnI.made W0 (lo := W0.heap.size) n k1 (Nat.le_refl _)
    have hm2 := (hm.lo_ (e := 3)).ext ((Ext.drew _).trans x3)
    obtain ⟨f, k1', k2', k3'⟩ := item_done (d := cleanD d) (w := w) (H := w.heap.size + 1) (.slice A3 n c3) (.slice (some ⟨W0.heap.size, 0, none⟩) n n) (.bool q) l3 (by show LO kdInt _ _ _ _ (List.replicate d.1.length 0) _; rw [hn.out]; exact hm2) (fun i hi hi' => by have := g3 i hi; simp at hi' this; omega) (fun i hi => by have := g3 i hi; simp at this; omega) (fun i hi => by simp at hi; omega) (X.out.trans Y3.out) (by omega)
    simp only [cleanD, List.length_replicate, hn.out, hq.out] at k1'
    exact ⟨_, f, rfl, by simpa only [cleanD, hn.out, hq.out] using k1', k2', k3'⟩
end Go.Proofs.Ytofmfagdaiphaaa
