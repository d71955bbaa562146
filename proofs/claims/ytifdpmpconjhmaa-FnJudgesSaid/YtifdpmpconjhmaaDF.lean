/- Marks drawn, mostly valid ones. -/
import Derived.Test.YtifdpmpconjhmaaDE
namespace Go.Proofs.Ytifdpmpconjhmaa
open Go.RowKit Go.Sort
set_option linter.unusedVariables false

theorem am_end {w wz : World} {g M N n : Nat} {v u0 u1 : Value} {dz : MD} (hg : g < w.heap.size) (h : RdA kM (w.heap.size + 1) wz v dz) (ok : kM.ok dz) (hc : Cur wz g M) (hM : M ≤ N + 20 * n + 200) (ht : TchF [g] w wz) :
    ∃ v' d, Ending.returned v = .returned v' ∧ RdA kM w.heap.size ((wz.setCell ⟨w.heap.size, 0, none⟩ u0).setCell ⟨w.heap.size, 1, none⟩ u1) v' d ∧ kM.ok d ∧ Cur ((wz.setCell ⟨w.heap.size, 0, none⟩ u0).setCell ⟨w.heap.size, 1, none⟩ u1) g (N + 20 * n + 200) ∧ TchF [g] w ((wz.setCell ⟨w.heap.size, 0, none⟩ u0).setCell ⟨w.heap.size, 1, none⟩ u1) := by
  obtain ⟨e1, e2, e3⟩ := ret_two (u0 := u0) (u1 := u1) h (Nat.lt_succ_self _) hc hg ht
  exact ⟨_, dz, rfl, e1, ok, e2.more hM, e3⟩
theorem am_endD {w wz : World} {g M N n : Nat} {v u0 u1 : Value} {dz : MD} (hg : g < w.heap.size) (h : RdA kM (w.heap.size + 1) wz v dz) (ok : kM.ok dz) (hc : Cur wz g M) (hM : M ≤ N + 20 * n + 200) (ht : TchF [g] w wz) :
    ∃ v' d, Ending.returned v = .returned v' ∧ RdA kM w.heap.size ((wz.setCell ⟨w.heap.size, 0, none⟩ u0).setCell ⟨w.heap.size, 1, none⟩ u1).drew v' d ∧ kM.ok d ∧ Cur ((wz.setCell ⟨w.heap.size, 0, none⟩ u0).setCell ⟨w.heap.size, 1, none⟩ u1).drew g (N + 20 * n + 200) ∧ TchF [g] w ((wz.setCell ⟨w.heap.size, 0, none⟩ u0).setCell ⟨w.heap.size, 1, none⟩ u1).drew := by
  obtain ⟨e1, e2, e3⟩ := ret_two (u0 := u0) (u1 := u1) h (Nat.lt_succ_self _) hc hg ht
  exact ⟨_, dz, rfl, e1.ext (Ext.drew _), ok, (e2.more hM).ext (Ext.drew _), e3.trans (TchF.of_ext (Ext.drew _))⟩
theorem rows_set {xs : List (List Int)} {k m : Nat} {y : List Int} (h : ∀ x ∈ xs, x.length ≤ m) (hy : y.length ≤ m) : ∀ x ∈ xs.set k y, x.length ≤ m := fun x hx => by
  rcases List.mem_or_eq_of_mem_set hx with e | e
  · exact h x e
  · rw [e]; exact hy

set_option maxRecDepth 100000 in
set_option maxHeartbeats 4000000 in
theorem cu.anyMarks_m (w : World) (g N n : Nat) (h : Cur w g N) (hN : N ≤ 4611686018410000000) (hn : n ≤ 1000) :
    Calls Try.prog 22 #[.pointer (some ⟨g, 0, none⟩), .int .i64 n] w fun e w' => ∃ v d, e = .returned v ∧ RdA kM w.heap.size w' v d ∧ kM.ok d ∧ Cur w' g (N + 20 * n + 200) ∧ TchF [g] w w' := by
  have hg := h.lt
  have C0 := hide (h.ext (Ext.alloc w (.cells #[.slice none 0 0, .slice none 0 0] 25)))
  have B0 : Hid (Blk (w.alloc (.cells #[.slice none 0 0, .slice none 0 0] 25)) w.heap.size #[.slice none 0 0, .slice none 0 0] 25) := Blk.new rfl _ _
  have MK := hide (cu.marks_m (w.alloc (.cells #[.slice none 0 0, .slice none 0 0] 25)) g N n C0.out (by omega) hn)
  clear h
  go_enter Try.func22, Try.ntmps22
  go_wp2_with fail
  refine MK.out.mono ?_
  rintro e w2 ⟨v, d, J, rfl, hfr, hd1, hd2, J3, J9, r1, r2, c2, k2⟩
  obtain ⟨A, c, A', c', fp, fp', rfl, p1, p2, f1, f2, fd⟩ := kM.open hfr
  have HD1 := hide hd1
  have HD2 := hide hd2
  have R1 := hide r1
  have R2 := hide r2
  have z2 : w.heap.size + 1 ≤ w2.heap.size := by have := k2.size; simpa using this
  have cp1 := p1.cap; have cp2 := p2.cap
  rw [hd1] at cp1; rw [hd2] at cp2
  rw [hd1, hd2]
  have B2 := B0.out.tchF k2 (by simp; omega)
  obtain ⟨WA, hWA⟩ : ∃ WA, Hid (WA = w2.alloc (.cells #[.slice A n c, .slice A' 3 c'] 25)) := ⟨_, rfl⟩
  have ST : Hid (AmSt w WA g w2.heap.size A c A' c' d fp fp') := by
    rw [hWA.out]
    refine ⟨B2.alloc _, by rw [hd1, hd2]; exact Blk.new rfl _ _, p1.ext (Ext.alloc _ _), p2.ext (Ext.alloc _ _), fun i hi => ?_, fun i hi => ?_, fd, by omega, ((TchF.of_ext (Ext.alloc w _)).trans k2).trans (TchF.of_ext (Ext.alloc _ _))⟩
    · have h1 := f1 i hi; simp at h1; omega
    · have h1 := f2 i hi; simp at h1; omega
  have CA : Hid (Cur WA g (N + 20 * n + 100)) := by rw [hWA.out]; exact c2.ext (Ext.alloc _ _)
  obtain ⟨g5, hg5⟩ : ∃ g5, g5 = w2.heap.size := ⟨_, rfl⟩
  rw [← hg5] at ST
  have zA : WA.heap.size = g5 + 1 := by rw [hWA.out, hg5]; simp
  clear hfr hd1 hd2 r1 r2 c2 k2 p1 p2 f1 f2 fd B2 B0 C0 MK
  go_wp2_with fail
  rw [← hWA.out, ← hg5]
  clear hWA hg5
  have l2 : LR kdL WA WA.heap.size A' c' d.2 := ST.out.oc.rd
  refine (s.mkJudges_any A A' n 3 c c' _ d WA l2 (Nat.le_refl _) (by rw [HD2.out]; omega) HD2.out.symm).mono ?_
  rintro e w3 ⟨rfl, x3⟩
  have hJ : judges d = J := by
    have h9 : 0 < d.2.length := by rw [HD2.out]; omega
    have h0 : d.2[0]? = some d.2[0] := List.getElem?_eq_getElem h9
    unfold judges
    rw [List.getD_eq_getElem?_getD, h0]
    exact R2.out _ (List.getElem_mem _)
  rw [hJ]
  have z3 := x3.size
  replace ST := hide (ST.out.ext hg x3)
  replace CA := hide (CA.out.ext x3)
  clear x3 hJ l2
  go_wp2_with fail
  refine (cu.pick_m w3 g _ J CA.out (by omega) (by unfold InR; omega)).mono ?_
  rintro e w4 ⟨jr, rfl, jr0, jr1, -, c4, k4⟩
  have jr2 := jr1 (by omega)
  obtain ⟨j, rfl⟩ : ∃ j : Nat, jr = j := ⟨jr.toNat, by omega⟩
  have hj : j < J := by omega
  have z4 := k4.size
  replace ST := hide (ST.out.curs hg k4)
  replace CA := hide c4
  clear c4 k4 jr0 jr1 jr2 z3 zA
  go_wp2_with fail
  refine (cu.pick_m w4 g _ 30 CA.out (by omega) (by unfold InR; omega)).mono ?_
  rintro e w5 ⟨r, rfl, ra, rb, -, c5, k5⟩
  have rc := rb (by omega)
  replace ST := hide (ST.out.curs hg k5)
  replace CA := hide c5
  have z5 := k5.size
  clear c5 k5 rb z4
  have b5 := ST.out.b5
  rw [HD1.out, HD2.out] at b5
  have q5 := b5.cell
  have f5 := b5.free
  have q0 := ST.out.b0.cell
  have f0 := ST.out.b0.free
  have n5 : g5 ≠ w.heap.size := by have := ST.out.h5; omega
  have B5 := hide b5
  clear b5
  have hfin : ∀ (wz : World) (dz : MD) (u0 u1 : Value) (h : AmSt w wz g g5 A c A' c' dz fp fp') (hc : Cur wz g (N + 20 * n + 100 + 2 + 2 + 6)) (h1 : dz.1.length = n) (h2 : dz.2.length = 3) (h3 : ∀ x ∈ dz.1, x.length = J) (h4 : ∀ x ∈ dz.2, x.length = J),
      ∃ v d, Ending.returned (.agg #[.slice A n c, .slice A' 3 c']) = .returned v ∧ RdA kM w.heap.size ((wz.setCell ⟨w.heap.size, 0, none⟩ u0).setCell ⟨w.heap.size, 1, none⟩ u1) v d ∧ kM.ok d ∧ Cur ((wz.setCell ⟨w.heap.size, 0, none⟩ u0).setCell ⟨w.heap.size, 1, none⟩ u1) g (N + 20 * n + 200) ∧ TchF [g] w ((wz.setCell ⟨w.heap.size, 0, none⟩ u0).setCell ⟨w.heap.size, 1, none⟩ u1) := by
    intro wz dz u0 u1 h hc h1 h2 h3 h4
    have hr := kM.rdA h.fr
    rw [h1, h2] at hr
    obtain ⟨e1, e2, e3⟩ := ret_two (u0 := u0) (u1 := u1) hr (Nat.lt_succ_self _) hc hg h.tch
    exact ⟨_, dz, rfl, e1, kM.ok_small hn (by omega) (by omega) (fun x hx => by have := h3 x hx; omega) (fun x hx => by have := h4 x hx; omega), e2.more (by omega), e3⟩
  have FIN := hide hfin
  have L1 : Hid (∀ x ∈ d.1, x.length ≤ 10) := fun x hx => by have := R1.out x hx; omega
  have L2 : Hid (∀ x ∈ d.2, x.length ≤ 10) := fun x hx => by have := R2.out x hx; omega
  clear hfin
  by_cases r0 : r = 0
  · subst r0
    by_cases hn0 : n = 0
    · subst hn0
      have hz : ¬ (0 : Int) < ((0 : Nat) : Int) := by omega
      go_wp2
      refine bodyPost_ret (v := .agg #[.slice A 0 c, .slice A' 3 c']) (by simp [results, Try.results22, go_sem, q0]) rfl ?_
      exact FIN.out _ d _ _ ST.out (CA.out.more (by omega)) HD1.out HD2.out R1.out R2.out
    have hz : (0 : Int) < (n : Int) := by omega
    obtain ⟨gL, hgA, hgl, hgg⟩ : ∃ gL, A = some ⟨gL, 0, none⟩ ∧ gL < w5.heap.size ∧ gL ≠ g := by
      obtain ⟨gA, Ax, cx, f, e, hm, _⟩ := ST.out.og.rowAt 0 _ (List.getElem?_eq_getElem (by rw [HD1.out]; omega))
      exact ⟨gA, e, ST.out.og.lt gA hm, by have := (ST.out.bg gA hm).1; omega⟩
    subst hgA
    obtain ⟨RC, hRC⟩ : ∃ RC : Nat → Option Value, Hid (∀ k, w5.cell? ⟨gL, k, none⟩ = RC k) := ⟨_, fun _ => rfl⟩
    have hP : ∀ wq, Ext w5 wq → Calls Try.prog 24 #[.pointer (some ⟨g, 0, none⟩), .int .i64 n] wq fun e w' => ∃ (k : Nat) (x : List Int) (gx cx : Nat), e = .returned (.int .i64 k) ∧ k < n ∧ RC k = some (.slice (some ⟨gx, 0, none⟩) J cx) ∧ J ≤ cx ∧ cx ≤ 9223372036854775807 ∧ w.heap.size < gx ∧ gx ≠ g5 ∧ gx ≠ gL ∧ x.length = J ∧ Cur w' g (N + 20 * n + 100 + 2 + 2 + 2) ∧ TchF [g] wq w' ∧
        ∀ wz, TchF [g] w5 wz → ∃ y, wz.cell? ⟨gx, j, none⟩ = some (.int .i64 y) ∧ wz.frozen? ⟨gx, j, none⟩ = false ∧ ∀ z, AmSt w (wz.setCell ⟨gx, j, none⟩ (.int .i64 z)) g g5 (some ⟨gL, 0, none⟩) c A' c' (d.1.set k (x.set j z), d.2) fp fp' := by
      intro wq hq
      refine (cu.pick_m wq g _ n (CA.out.ext hq) (by omega) (by unfold InR; omega)).mono ?_
      rintro e w6 ⟨kr, rfl, k0, k1, -, c6, k6⟩
      have k2 := k1 (by omega)
      obtain ⟨k, rfl⟩ : ∃ k : Nat, kr = k := ⟨kr.toNat, by omega⟩
      have hk : k < n := by omega
      obtain ⟨x, hx⟩ : ∃ x, d.1[k]? = some x := ⟨_, List.getElem?_eq_getElem (by rw [HD1.out]; omega)⟩
      have hxl : x.length = J := R1.out x (List.mem_of_getElem? hx)
      obtain ⟨gA, gx, cx, eA, s1, s2, s3, s4, s5, s55, _, _, s6⟩ := ST.out.spotG hg k x hx j (by omega)
      simp only [Option.some.injEq, Addr.mk.injEq, and_true] at eA
      subst eA
      rw [hxl] at s1 s2
      exact ⟨k, x, gx, cx, rfl, hk, (hRC.out k).symm.trans s1, s2, s3, s4, s5, s55, hxl, c6, k6, fun wz hz => ⟨_, (s6 wz hz).1, (s6 wz hz).2.1, (s6 wz hz).2.2⟩⟩
    have P6 := hide hP
    have SF : Hid (∀ wz, TchF [g] w5 wz → (∀ i, wz.cell? ⟨g5, i, none⟩ = #[Value.slice (some ⟨gL, 0, none⟩) n c, .slice A' 3 c'][i]?) ∧ ∀ k, wz.cell? ⟨gL, k, none⟩ = RC k) := fun wz hz =>
      ⟨(B5.out.tchF hz (by have := ST.out.h5; simp; omega)).cell, fun k => (World.cell?_of_block (w := w5) (hz.block gL hgl (by simpa using hgg))).trans (hRC.out k)⟩
    have SSF : Hid (∀ wz gx v, TchF [g] w5 wz → gx ≠ g5 → gx ≠ gL → (∀ i, (wz.setCell ⟨gx, j, none⟩ v).cell? ⟨g5, i, none⟩ = #[Value.slice (some ⟨gL, 0, none⟩) n c, .slice A' 3 c'][i]?) ∧ ∀ k, (wz.setCell ⟨gx, j, none⟩ v).cell? ⟨gL, k, none⟩ = RC k) := fun wz gx v hz h1 h2 =>
      ⟨fun i => (cellS (by simp)).trans ((SF.out wz hz).1 i), fun k => (cellS (by simp)).trans ((SF.out wz hz).2 k)⟩
    have X1 : Hid (TchF [g] w5 w5.drew) := TchF.of_ext (Ext.drew _)
    have X2 : Hid (TchF [g] w5 (w5.alloc (.cells #[.int .i64 (-6), .int .i64 (-5), .int .i64 5, .int .i64 6] 3)).drew) := TchF.of_ext ((Ext.alloc _ _).trans (Ext.drew _))
    have X2e : Hid (Ext w5 (w5.alloc (.cells #[.int .i64 (-6), .int .i64 (-5), .int .i64 5, .int .i64 6] 3)).drew) := (Ext.alloc _ _).trans (Ext.drew _)
    have BL : Hid (Blk (w5.alloc (.cells #[.int .i64 (-6), .int .i64 (-5), .int .i64 5, .int .i64 6] 3)).drew w5.heap.size #[.int .i64 (-6), .int .i64 (-5), .int .i64 5, .int .i64 6] 3) := (Blk.new (w := w5) rfl #[.int .i64 (-6), .int .i64 (-5), .int .i64 5, .int .i64 6] 3).ext (Ext.drew _)
    have NG : Hid (g ≠ w5.heap.size) := by have := CA.out.lt; show g ≠ _; omega
    have hcI : ((0 : Int) ≤ (j : Int)) ∧ (j : Int) < J := by omega
    clear hP q5
    go_wp2
    go_region_held3 (fun wz => (∀ i, wz.cell? ⟨g5, i, none⟩ = #[Value.slice (some ⟨gL, 0, none⟩) n c, .slice A' 3 c'][i]?) ∧ ∀ k, wz.cell? ⟨gL, k, none⟩ = RC k)
      (first | with_reducible exact SSF.out _ _ _ K9.out n8 n9 | with_reducible exact SF.out _ K9.out | with_reducible exact SF.out _ K8.out | with_reducible exact SF.out _ K6.out | with_reducible exact SF.out _ X1.out | with_reducible exact SF.out _ X2.out | fail)
      (first
        | (go_at_call 33; refine MA.out.mono ?_; rintro e w7 ⟨z, rfl, hz, c7, k7⟩; have K9 := hide (K8.out.trans k7); have C9 := hide c7; obtain ⟨y, s1, s2, s3⟩ := HX6.out w7 K9.out; have S3 := hide s3; clear c7 k7 s3 hz)
        | (go_at_call 24; refine (P6.out _ X2e.out).mono ?_; rintro e w6 ⟨k, x, gx, cx, rfl, hk, hrc, h1, h2, n7, n8, n9, hxl, c6, k6, hx6⟩; have hki : (k : Int) < n := (by omega); have HXL := hide hxl; have HX6 := hide hx6; have K6 := hide (X2.out.trans k6); have K8 := hide K6.out; have MA := hide (cu.among_m w6 g _ w5.heap.size 4 [-6, -5, 5, 6] c6 (by omega) (BL.out.tchF k6 (by simpa using Ne.symm NG.out)) (Ne.symm NG.out) (by decide) (by decide)); clear hxl c6 k6 hx6)
        | (go_at_call 24; refine (P6.out _ (Ext.drew w5)).mono ?_; rintro e w6 ⟨k, x, gx, cx, rfl, hk, hrc, h1, h2, n7, n8, n9, hxl, c6, k6, hx6⟩; have hki : (k : Int) < n := (by omega); have HXL := hide hxl; have HX6 := hide hx6; have K6 := hide (X1.out.trans k6); have K8 := hide (K6.out.trans (TchF.of_ext (Ext.alloc w6 (.cells #[.int .i64 (-6), .int .i64 (-5), .int .i64 5, .int .i64 6] 3)))); have MA := hide (cu.among_m (w6.alloc (.cells #[.int .i64 (-6), .int .i64 (-5), .int .i64 5, .int .i64 6] 3)) g _ w6.heap.size 4 [-6, -5, 5, 6] (c6.ext (Ext.alloc _ _)) (by omega) (Blk.new rfl _ _) (by have := c6.lt; omega) (by decide) (by decide)); clear hxl c6 k6 hx6)
        | fail)
    all_goals
      have q5 := (SSF.out w7 gx (.int .i64 z) K9.out n8 n9).1
      have RS : ∀ y ∈ d.1.set k (x.set j z), y.length = J := fun y hy => by
        rcases List.mem_or_eq_of_mem_set hy with e | e
        · exact R1.out y e
        · rw [e, List.length_set]; exact HXL.out
      clear q0 f0 f5
      have q0 := (S3.out z).b0.cell
      have f0 := (S3.out z).b0.free
      have RSh := hide RS
      clear RS
      go_wp2
      refine bodyPost_ret (v := .agg #[.slice (some ⟨gL, 0, none⟩) n c, .slice A' 3 c']) (by simp [results, Try.results22, go_sem, q0]) rfl ?_
      exact FIN.out _ _ _ _ (S3.out z) ((C9.out.tchF (TchF.put w7 ⟨gx, j, none⟩ (.int .i64 z) (fp := [gx]) (by simp)) (fun i hi => by simp at hi; omega)).more (by omega)) (by rw [List.length_set]; exact HD1.out) HD2.out RSh.out R2.out
  have b0 : (r == 0) = false := by simpa using r0
  by_cases r1 : r = 1
  · subst r1
    obtain ⟨gL, hgA, hgl, hgg⟩ : ∃ gL, A' = some ⟨gL, 0, none⟩ ∧ gL < w5.heap.size ∧ gL ≠ g := by
      obtain ⟨gA, Ax, cx, f, e, hm, _⟩ := ST.out.oc.rowAt 0 _ (List.getElem?_eq_getElem (by rw [HD2.out]; omega))
      exact ⟨gA, e, ST.out.oc.lt gA hm, by have := (ST.out.bc gA hm).1; omega⟩
    subst hgA
    obtain ⟨RC, hRC⟩ : ∃ RC : Nat → Option Value, Hid (∀ k, w5.cell? ⟨gL, k, none⟩ = RC k) := ⟨_, fun _ => rfl⟩
    have hP : ∀ wq, Ext w5 wq → Calls Try.prog 24 #[.pointer (some ⟨g, 0, none⟩), .int .i64 3] wq fun e w' => ∃ (k : Nat) (x : List Int) (gx cx : Nat), e = .returned (.int .i64 k) ∧ k < 3 ∧ RC k = some (.slice (some ⟨gx, 0, none⟩) J cx) ∧ J ≤ cx ∧ cx ≤ 9223372036854775807 ∧ w.heap.size < gx ∧ gx ≠ g5 ∧ gx ≠ gL ∧ x.length = J ∧ Cur w' g (N + 20 * n + 100 + 2 + 2 + 2) ∧ TchF [g] wq w' ∧
        ∀ wz, TchF [g] w5 wz → ∃ y, wz.cell? ⟨gx, j, none⟩ = some (.int .i64 y) ∧ wz.frozen? ⟨gx, j, none⟩ = false ∧ ∀ z, AmSt w (wz.setCell ⟨gx, j, none⟩ (.int .i64 z)) g g5 A c (some ⟨gL, 0, none⟩) c' (d.1, d.2.set k (x.set j z)) fp fp' := by
      intro wq hq
      refine (cu.pick_m wq g _ 3 (CA.out.ext hq) (by omega) (by unfold InR; omega)).mono ?_
      rintro e w6 ⟨kr, rfl, k0, k1, -, c6, k6⟩
      have k2 := k1 (by omega)
      obtain ⟨k, rfl⟩ : ∃ k : Nat, kr = k := ⟨kr.toNat, by omega⟩
      have hk : k < 3 := by omega
      obtain ⟨x, hx⟩ : ∃ x, d.2[k]? = some x := ⟨_, List.getElem?_eq_getElem (by rw [HD2.out]; omega)⟩
      have hxl : x.length = J := R2.out x (List.mem_of_getElem? hx)
      obtain ⟨gA, gx, cx, eA, s1, s2, s3, s4, s5, s55, _, _, s6⟩ := ST.out.spotC hg k x hx j (by omega)
      simp only [Option.some.injEq, Addr.mk.injEq, and_true] at eA
      subst eA
      rw [hxl] at s1 s2
      exact ⟨k, x, gx, cx, rfl, hk, (hRC.out k).symm.trans s1, s2, s3, s4, s5, s55, hxl, c6, k6, fun wz hz => ⟨_, (s6 wz hz).1, (s6 wz hz).2.1, (s6 wz hz).2.2⟩⟩
    have P6 := hide hP
    have SF : Hid (∀ wz, TchF [g] w5 wz → (∀ i, wz.cell? ⟨g5, i, none⟩ = #[Value.slice A n c, .slice (some ⟨gL, 0, none⟩) 3 c'][i]?) ∧ ∀ k, wz.cell? ⟨gL, k, none⟩ = RC k) := fun wz hz =>
      ⟨(B5.out.tchF hz (by have := ST.out.h5; simp; omega)).cell, fun k => (World.cell?_of_block (w := w5) (hz.block gL hgl (by simpa using hgg))).trans (hRC.out k)⟩
    have SSF : Hid (∀ wz gx v, TchF [g] w5 wz → gx ≠ g5 → gx ≠ gL → (∀ i, (wz.setCell ⟨gx, j, none⟩ v).cell? ⟨g5, i, none⟩ = #[Value.slice A n c, .slice (some ⟨gL, 0, none⟩) 3 c'][i]?) ∧ ∀ k, (wz.setCell ⟨gx, j, none⟩ v).cell? ⟨gL, k, none⟩ = RC k) := fun wz gx v hz h1 h2 =>
      ⟨fun i => (cellS (by simp)).trans ((SF.out wz hz).1 i), fun k => (cellS (by simp)).trans ((SF.out wz hz).2 k)⟩
    have X1 : Hid (TchF [g] w5 w5.drew) := TchF.of_ext (Ext.drew _)
    have X2 : Hid (TchF [g] w5 (w5.alloc (.cells #[.int .i64 (-25), .int .i64 0, .int .i64 10, .int .i64 1000, .int .i64 1025] 3)).drew) := TchF.of_ext ((Ext.alloc _ _).trans (Ext.drew _))
    have X2e : Hid (Ext w5 (w5.alloc (.cells #[.int .i64 (-25), .int .i64 0, .int .i64 10, .int .i64 1000, .int .i64 1025] 3)).drew) := (Ext.alloc _ _).trans (Ext.drew _)
    have BL : Hid (Blk (w5.alloc (.cells #[.int .i64 (-25), .int .i64 0, .int .i64 10, .int .i64 1000, .int .i64 1025] 3)).drew w5.heap.size #[.int .i64 (-25), .int .i64 0, .int .i64 10, .int .i64 1000, .int .i64 1025] 3) := (Blk.new (w := w5) rfl #[.int .i64 (-25), .int .i64 0, .int .i64 10, .int .i64 1000, .int .i64 1025] 3).ext (Ext.drew _)
    have NG : Hid (g ≠ w5.heap.size) := by have := CA.out.lt; show g ≠ _; omega
    have hcI : ((0 : Int) ≤ (j : Int)) ∧ (j : Int) < J := by omega
    clear hP q5
    go_wp2
    go_region_held3 (fun wz => (∀ i, wz.cell? ⟨g5, i, none⟩ = #[Value.slice A n c, .slice (some ⟨gL, 0, none⟩) 3 c'][i]?) ∧ ∀ k, wz.cell? ⟨gL, k, none⟩ = RC k)
      (first | with_reducible exact SSF.out _ _ _ K9.out n8 n9 | with_reducible exact SF.out _ K9.out | with_reducible exact SF.out _ K8.out | with_reducible exact SF.out _ K6.out | with_reducible exact SF.out _ X1.out | with_reducible exact SF.out _ X2.out | fail)
      (first
        | (go_at_call 33; refine MA.out.mono ?_; rintro e w7 ⟨z, rfl, hz, c7, k7⟩; have K9 := hide (K8.out.trans k7); have C9 := hide c7; obtain ⟨y, s1, s2, s3⟩ := HX6.out w7 K9.out; have S3 := hide s3; clear c7 k7 s3 hz)
        | (go_at_call 24; refine (P6.out _ X2e.out).mono ?_; rintro e w6 ⟨k, x, gx, cx, rfl, hk, hrc, h1, h2, n7, n8, n9, hxl, c6, k6, hx6⟩; have hki : (k : Int) < 3 := (by omega); have HXL := hide hxl; have HX6 := hide hx6; have K6 := hide (X2.out.trans k6); have K8 := hide K6.out; have MA := hide (cu.among_m w6 g _ w5.heap.size 5 [-25, 0, 10, 1000, 1025] c6 (by omega) (BL.out.tchF k6 (by simpa using Ne.symm NG.out)) (Ne.symm NG.out) (by decide) (by decide)); clear hxl c6 k6 hx6)
        | (go_at_call 24; refine (P6.out _ (Ext.drew w5)).mono ?_; rintro e w6 ⟨k, x, gx, cx, rfl, hk, hrc, h1, h2, n7, n8, n9, hxl, c6, k6, hx6⟩; have hki : (k : Int) < 3 := (by omega); have HXL := hide hxl; have HX6 := hide hx6; have K6 := hide (X1.out.trans k6); have K8 := hide (K6.out.trans (TchF.of_ext (Ext.alloc w6 (.cells #[.int .i64 (-25), .int .i64 0, .int .i64 10, .int .i64 1000, .int .i64 1025] 3)))); have MA := hide (cu.among_m (w6.alloc (.cells #[.int .i64 (-25), .int .i64 0, .int .i64 10, .int .i64 1000, .int .i64 1025] 3)) g _ w6.heap.size 5 [-25, 0, 10, 1000, 1025] (c6.ext (Ext.alloc _ _)) (by omega) (Blk.new rfl _ _) (by have := c6.lt; omega) (by decide) (by decide)); clear hxl c6 k6 hx6)
        | fail)
    all_goals
      have q5 := (SSF.out w7 gx (.int .i64 z) K9.out n8 n9).1
      have RS : ∀ y ∈ d.2.set k (x.set j z), y.length = J := fun y hy => by
        rcases List.mem_or_eq_of_mem_set hy with e | e
        · exact R2.out y e
        · rw [e, List.length_set]; exact HXL.out
      clear q0 f0 f5
      have q0 := (S3.out z).b0.cell
      have f0 := (S3.out z).b0.free
      have RSh := hide RS
      clear RS
      go_wp2
      refine bodyPost_ret (v := .agg #[.slice A n c, .slice (some ⟨gL, 0, none⟩) 3 c']) (by simp [results, Try.results22, go_sem, q0]) rfl ?_
      exact FIN.out _ _ _ _ (S3.out z) ((C9.out.tchF (TchF.put w7 ⟨gx, j, none⟩ (.int .i64 z) (fp := [gx]) (by simp)) (fun i hi => by simp at hi; omega)).more (by omega)) HD1.out (by rw [List.length_set]; exact HD2.out) R1.out RSh.out
  have b1 : (r == 1) = false := by simpa using r1
  by_cases r2 : r = 2
  · subst r2
    by_cases hn0 : n = 0
    · subst hn0
      have hz : ¬ (0 : Int) < ((0 : Nat) : Int) := by omega
      go_wp2
      refine bodyPost_ret (v := .agg #[.slice A 0 c, .slice A' 3 c']) (by simp [results, Try.results22, go_sem, q0]) rfl ?_
      exact FIN.out _ d _ _ ST.out (CA.out.more (by omega)) HD1.out HD2.out R1.out R2.out
    · have hz : (0 : Int) < (n : Int) := by omega
      go_wp2_with fail
      refine (cu.pick_m w5 g _ n CA.out (by omega) (by unfold InR; omega)).mono ?_
      rintro e w6 ⟨kr, rfl, k0, k1, -, c6, k6⟩
      have k2 := k1 (by omega)
      obtain ⟨k, rfl⟩ : ∃ k : Nat, kr = k := ⟨kr.toNat, by omega⟩
      have hk : k < n := by omega
      replace ST := hide (ST.out.curs hg k6)
      replace CA := hide c6
      replace B5 : Hid (Blk w6 g5 #[.slice A n c, .slice A' 3 c'] 25) := by have := ST.out.b5; rw [HD1.out, HD2.out] at this; exact this
      clear c6 k6 k0 k1 q5 f5 q0 f0 k2
      obtain ⟨x, hx⟩ : ∃ x, d.1[k]? = some x := ⟨_, List.getElem?_eq_getElem (by rw [HD1.out]; omega)⟩
      have hxl : x.length = J := R1.out x (List.mem_of_getElem? hx)
      have X1 : Hid (Ext w6 (w6.alloc (.cells #[.int .i64 0] 3)).drew) := (Ext.alloc _ _).trans (Ext.drew _)
      obtain ⟨gG, Ax, cx, rfl, gm, gc, gf, go, ga, _⟩ := ST.out.og.grow k x hx
      have S2 := hide (ST.out.ext hg X1.out)
      obtain ⟨gG', Ax', cx', e1, _, gc', gf', go', _, gr⟩ := S2.out.og.grow k x hx
      simp only [Option.some.injEq, Addr.mk.injEq, and_true] at e1
      subst e1
      have zl := ST.out.og.lt gG gm
      have e2 : some (Value.slice Ax x.length cx) = some (.slice Ax' x.length cx') := gc.symm.trans ((cellA (w := w6) (by simpa using zl)).symm.trans gc')
      simp only [Option.some.injEq, Value.slice.injEq, true_and] at e2
      obtain ⟨rfl, rfl⟩ := e2
      rw [hxl] at gc go go'
      have HXL := hide hxl
      have HX := hide hx
      have GO := hide go'
      have GR := hide gr
      have q1 := go.capn; have q2 := go.capm
      have q5 := B5.out.cell
      have q5a := (B5.out.alloc (.cells #[.int .i64 0] 3)).cell
      have gca : (w6.alloc (.cells #[.int .i64 0] 3)).cell? ⟨gG, k, none⟩ = some (.slice Ax J cx) := by rw [cellA (by simpa using zl)]; exact gc
      have n1 := (ST.out.bg gG gm).1
      have n2 := (ST.out.bg gG gm).2
      have n3 : gG ≠ w.heap.size := by omega
      have b1 : (J + 1) * 8 ≤ 140737488355328 := by omega
      have b2 : J + 1 ≤ 4611686018427387904 := by omega
      have hki : (k : Int) < n := by omega
      have B51 : Hid (Blk (w6.alloc (.cells #[.int .i64 0] 3)).drew g5 #[.slice (some ⟨gG, 0, none⟩) n c, .slice A' 3 c'] 25) := B5.out.ext X1.out
      have N5 : Hid (g5 ∉ fp ∧ w.heap.size ∉ fp) := ⟨fun hm => (ST.out.bg _ hm).2 rfl, fun hm => by have := (ST.out.bg _ hm).1; omega⟩
      clear go go' gr gc' gf' hx hxl ga
      go_wp2
      go_region_law ((refine step_append_sl (by rfl) (.tmp 62) (.tmp 63) (by rfl) elem_int (by rfl) (by rfl) (lo := 0) GO.out (Sl.one w6 (.int .i64 0) 3).drew (one_int 0) b1 b2 (Nat.zero_le _) ?_; intro A3 c3 w3 hap; have h9 := GR.out w3 A3 _ c3 (x ++ [0]) (by simpa using hap); rw [HXL.out] at h9; have c9 := h9.1; have f9 := h9.2.1; have H9 := hide h9; have c7 := (B51.out.tchF h9.2.2.1 N5.out.1).cell; have c8 := ((S2.out.b0).tchF h9.2.2.1 N5.out.2).cell; have f8 := ((S2.out.b0).tchF h9.2.2.1 N5.out.2).free; clear h9 hap))
      all_goals
        go_wp2
        refine bodyPost_ret (v := .agg #[.slice (some ⟨gG, 0, none⟩) n c, .slice A' 3 c']) (by simp [results, Try.results22, go_sem, c8]) rfl ?_
        obtain ⟨_, _, ht, fq', hl, hs⟩ := H9.out
        have t2 := (ht.trans (TchF.put w3 ⟨gG, k, none⟩ (.slice A3 (J + 1) c3) (fp := fp) gm))
        have oc2 := (S2.out.oc.keep (fun i hi => ht.block i (S2.out.oc.lt i hi) (fun hm => S2.out.dj i hm hi))).keep (fun i hi => Below.heap_setCell w3 ⟨gG, k, none⟩ (.slice A3 (J + 1) c3) i (fun (e : i = gG) => S2.out.dj gG gm (e ▸ hi)))
        have s2 := X1.out.size
        have s3 := ST.out.tch.size
        have rA := kM.rdA (kM.mk (lo := w.heap.size + 1) (n := n) (n' := 3) (d := (d.1.set k (x ++ [0]), d.2)) hl oc2 (by simp [HD1.out]) HD2.out.symm (fun i hi => ⟨by
          rcases hs i hi with e | e
          · exact (ST.out.bg i e).1
          · omega, hl.lt i hi⟩) (fun i hi => ⟨(ST.out.bc i hi).1, oc2.lt i hi⟩) (fun i hi hm => by
          rcases hs i hi with e | e
          · exact ST.out.dj i e hm
          · have := S2.out.oc.lt i hm; omega))
        have hp : ∀ i ∈ fp, w.heap.size ≤ i := fun i hi => by have := (ST.out.bg i hi).1; omega
        exact am_end hg rA (kM.ok_small hn (by rw [List.length_set, HD1.out]; omega) (by rw [HD2.out]; omega) (rows_set L1.out (by simp [HXL.out]; omega)) L2.out) ((CA.out.ext X1.out).tchF t2 (fun i hi => by have := hp i hi; omega)) (by omega) (S2.out.tch.step t2 (fun i hi => .inr (hp i hi)))
  have b2 : (r == 2) = false := by simpa using r2
  by_cases r3 : r = 3
  · subst r3
    obtain ⟨x, hx⟩ : ∃ x, d.2[0]? = some x := ⟨_, List.getElem?_eq_getElem (by rw [HD2.out]; omega)⟩
    have hxl : x.length = J := R2.out x (List.mem_of_getElem? hx)
    obtain ⟨gC, Ax, cx, vs, rfl, hm, hc, hcx1, hcx2, hv, hrd⟩ := ST.out.share3 x hx
    rw [hxl] at hc hcx1 hrd
    rw [HD1.out, HD2.out] at hrd
    rw [HD2.out] at hv
    have HRD := hide hrd
    have HX := hide hx
    have HXL := hide hxl
    have HV := hide (Own.drew (hv.alloc (.cells #[.slice Ax J cx] 36)))
    have n1 := (ST.out.bc gC hm).1
    have n2 := (ST.out.bc gC hm).2
    have n3 : gC ≠ w.heap.size := by omega
    have zl := ST.out.oc.lt gC hm
    have zm := ST.out.b0.lt
    have z5' := ST.out.b5.lt
    have cA1 := (B5.out.alloc (.cells #[.slice Ax J cx] 36)).cell
    have cA2 : (w5.alloc (.cells #[.slice Ax J cx] 36)).cell? ⟨gC, 0, none⟩ = some (.slice Ax J cx) := by rw [cellA (by simpa using zl)]; exact hc
    have U1 : Hid (∀ u ∈ [Value.slice Ax J cx], u.oneCell' = true) := by show ∀ u ∈ _, _; simp [Value.oneCell']
    have X1 : Hid (Ext w5 (w5.alloc (.cells #[.slice Ax J cx] 36)).drew) := (Ext.alloc _ _).trans (Ext.drew _)
    have B51 : Hid (Blk (w5.alloc (.cells #[.slice Ax J cx] 36)).drew g5 #[.slice A n c, .slice (some ⟨gC, 0, none⟩) 3 c'] 25) := B5.out.ext X1.out
    have b1 : (3 + 1) * 24 ≤ 140737488355328 := by omega
    have b2 : 3 + 1 ≤ 4611686018427387904 := by omega
    clear hrd hx hxl hv
    go_wp2
    go_region_law ((refine step_append_sl (by rfl) (.tmp 69) (.tmp 74) (by rfl) elem_row (by rfl) (by rfl) (lo := 0) HV.out (Sl.one w5 (.slice Ax J cx) 36).drew U1.out b1 b2 (Nat.zero_le _) ?_; intro A3 c3 w3 hap; have c9 := (B51.out.apd hap (fun p hp => by cases hp; exact n2)).cell; have f9 := (B51.out.apd hap (fun p hp => by cases hp; exact n2)).free; have HAP := hide hap; have c8 := ((ST.out.b0.ext X1.out).apd hap (fun p hp => by cases hp; exact n3)).cell; have f8 := ((ST.out.b0.ext X1.out).apd hap (fun p hp => by cases hp; exact n3)).free; clear hap))
    all_goals
      go_wp2
      refine bodyPost_ret (v := .agg #[.slice A n c, .slice A3 4 c3]) (by simp [results, Try.results22, go_sem, c8]) rfl ?_
      have t1 := (TchF.of_ext X1.out (fp := [gC])).trans (TchF.of_grown (fp := [gC]) HAP.out.grew (fun p hp => by cases hp; simp))
      have t2 := (t1.more (fp' := [gC, g5]) (by simp)).trans (TchF.put w3 ⟨g5, 1, none⟩ (.slice A3 4 c3) (fp := [gC, g5]) (by simp))
      have h5 := ST.out.h5
      exact am_end hg (HRD.out _ w3 A3 c3 _ X1.out HAP.out) (kM.ok_small hn (by rw [HD1.out]; omega) (by simp [HD2.out]) L1.out (fun y hy => by rcases List.mem_append.1 hy with e | e; exact L2.out y e; simp at e; rw [e, HXL.out]; omega)) (CA.out.tchF t2 (fun i hi => by simp at hi; omega)) (by omega) (ST.out.tch.step t2 (fun i hi => .inr (by simp at hi; omega)))
  have b3 : (r == 3) = false := by simpa using r3
  by_cases r4 : r = 4
  · subst r4
    obtain ⟨x, hx⟩ : ∃ x, d.2[1]? = some x := ⟨_, List.getElem?_eq_getElem (by rw [HD2.out]; omega)⟩
    have hxl : x.length = J := R2.out x (List.mem_of_getElem? hx)
    obtain ⟨gC, gx, cx, rfl, hm, hc, hfz, hcx1, hcx2, hrd⟩ := ST.out.share4 1 x hx (by omega)
    rw [hxl] at hc hcx1 hrd
    rw [HD1.out, HD2.out] at hrd
    have HRD := hide hrd
    have HX := hide hx
    have HXL := hide hxl
    have n1 := (ST.out.bc gC hm).1
    have n2 := (ST.out.bc gC hm).2
    clear hrd hx hxl
    have n3 : gC ≠ w.heap.size := by omega
    go_wp2
    go_region
    all_goals
      go_wp2
      refine bodyPost_ret (v := .agg #[.slice A n c, .slice (some ⟨gC, 0, none⟩) 3 c']) (by simp [results, Try.results22, go_sem, q0]) rfl ?_
      exact am_endD hg (HRD.out w5 (Ext.refl _)) (kM.ok_small hn (by rw [HD1.out]; omega) (by rw [List.length_set, HD2.out]; omega) L1.out (rows_set L2.out (by have := HXL.out; simp; omega))) (CA.out.tchF (TchF.put w5 ⟨gC, 1, none⟩ _ (fp := [gC]) (by simp)) (fun i hi => by simp at hi; omega)) (by omega) (ST.out.tch.step (TchF.put w5 ⟨gC, 1, none⟩ _ (fp := [gC]) (by simp)) (fun i hi => .inr (by simp at hi; omega)))
  have b4 : (r == 4) = false := by simpa using r4
  by_cases r5 : r = 5
  · subst r5
    have h0 := ST.out.b0
    have BL := (Blk.new (w := w5) rfl #[.int .i64 2, .int .i64 9, .int .i64 10] 3)
    have AMG := hide (cu.among_m (w5.alloc (.cells #[.int .i64 2, .int .i64 9, .int .i64 10] 3)) g _ w5.heap.size 3 [2, 9, 10] (CA.out.ext (Ext.alloc _ _)) (by omega) BL (by have := CA.out.lt; omega) (by decide) (by decide))
    clear BL h0
    go_wp2_with fail
    refine AMG.out.mono ?_
    rintro e w6 ⟨mr, rfl, hmr, c6, k6⟩
    have hm : 2 ≤ mr ∧ mr ≤ 10 := by
      simp only [List.mem_cons, List.not_mem_nil, or_false] at hmr
      omega
    obtain ⟨m, rfl⟩ : ∃ m : Nat, mr = m := ⟨mr.toNat, by omega⟩
    have S6 := hide ((ST.out.ext hg (Ext.alloc _ _)).curs hg k6)
    have C6 := hide c6
    obtain ⟨gL, hgA, hgl, hgh⟩ : ∃ gL, A' = some ⟨gL, 0, none⟩ ∧ gL < w6.heap.size ∧ w.heap.size < gL := by
      obtain ⟨gA, Ax, cx, f, e, hm, _⟩ := S6.out.oc.rowAt 0 _ (List.getElem?_eq_getElem (by rw [HD2.out]; omega))
      exact ⟨gA, e, S6.out.oc.lt gA hm, (S6.out.bc gA hm).1⟩
    subst hgA
    have S7 := hide S6.out.noG
    have C7 := hide (C6.out.tchF (TchF.put w6 ⟨g5, 0, none⟩ (.slice none 0 0) (fp := [g5]) (by simp)) (fun i hi => by have := S6.out.h5; simp at hi; omega))
    have MKR := hide (fun w => run_make_row' (P := Try.prog) 36 3 (.int .i64 0) 8 Try.underlying36 (by kernel_rfl) rfl .i64 .i64 m (by omega) (by omega) w)
    have b6 := S6.out.b5
    rw [HD1.out, HD2.out] at b6
    have q5 := b6.cell
    have f5 := b6.free
    clear c6 k6 hmr q0 f0 b6 AMG
    go_wp2
    go_loopw [96] (fun i wr => ∃ (k : Nat) (xs : List (List Int)) (fq : List Nat), k ≤ 3 ∧ i = .int .i64 k ∧ xs.length = 3 ∧ (∀ x ∈ xs, x.length ≤ 10) ∧ AmSt w wr g g5 none 0 (some ⟨gL, 0, none⟩) c' ([], xs) [] fq ∧ Cur wr g (N + 20 * n + 100 + 2 + 2 + 2 + 2)) (fun i _ => 3 - (intOf i).toNat)
    case atStart => exact ⟨0, d.2, fp', by omega, rfl, HD2.out, L2.out, S7.out, C7.out.more (by omega)⟩
    case round =>
      obtain ⟨k, xs, fq, hk, rfl, hx3, hx10, st, cur⟩ := hrel
      have SR := hide st
      have CR := hide cur
      have X3 := hide hx3
      have X10 := hide hx10
      have b7 := st.b5
      rw [hx3] at b7
      have B7 : Hid (Blk wr g5 #[.slice none 0 0, .slice (some ⟨gL, 0, none⟩) 3 c'] 25) := b7
      clear st cur hx3 hx10 b7
      clear q5 f5
      have q5 := B7.out.cell
      have f5 := B7.out.free
      by_cases hlt : k < 3
      · obtain ⟨x, hx⟩ : ∃ x, xs[k]? = some x := ⟨_, List.getElem?_eq_getElem (by rw [X3.out]; omega)⟩
        obtain ⟨gA, Ax, cx, f, eA, hmA, hcA, hfA, _⟩ := SR.out.oc.rowAt k x hx
        simp only [Option.some.injEq, Addr.mk.injEq, and_true] at eA
        subst eA
        have n2 := (SR.out.bc gL hmA).2
        have gll := SR.out.oc.lt gL hmA
        have g5l := SR.out.b5.lt
        have X9 : Hid (Ext wr (wr.alloc (.cells (madeCells #[.int .i64 0] m) 3)).drew) := (Ext.alloc _ _).trans (Ext.drew _)
        have OW : Hid (OwnI 3 (wr.alloc (.cells (madeCells #[.int .i64 0] m) 3)).drew 0 (some ⟨wr.heap.size, 0, none⟩) m m (List.replicate m 0)) := Own.drew (OwnI.madeD wr (lo := 0) m (by omega) (Nat.zero_le _))
        have q5a := (B7.out.alloc (.cells (madeCells #[.int .i64 0] m) 3)).cell
        have hcB : (wr.alloc (.cells (madeCells #[.int .i64 0] m) 3)).cell? ⟨gL, k, none⟩ = some (.slice Ax x.length cx) := by rw [cellA (by simpa using gll)]; exact hcA
        have hfB : (wr.alloc (.cells (madeCells #[.int .i64 0] m) 3)).frozen? ⟨gL, k, none⟩ = false := by rw [freeA (by simpa using gll)]; exact hfA
        have hki : (k : Int) < 3 := by omega
        have HF := hide (SR.out.fresh (wm := (wr.alloc (.cells (madeCells #[.int .i64 0] m) 3)).drew) hg (by rw [X3.out]; exact hlt) X9.out OW.out (by simp [World.drew]))
        have mkr := MKR.out
        have HX := hide hx
        obtain ⟨lx, hlx⟩ : ∃ lx, lx = x.length := ⟨_, rfl⟩
        rw [← hlx] at hcA hcB
        clear hx hlx
        go_wp2
        go_region
        all_goals
          clear mkr
          go_wp2
          go_roundw
          case rel =>
            obtain ⟨fp2, h3⟩ := HF.out
            have h4 := (CR.out.ext X9.out).tchF (TchF.put _ ⟨gL, k, none⟩ (.slice (some ⟨wr.heap.size, 0, none⟩) m m) (fp := [gL]) (by simp)) (fun i hi => by simp at hi; omega)
            rw [World.setCell_drew, World.setCell_alloc_past _ _ _ _ gll] at h3 h4
            exact ⟨k + 1, xs.set k (List.replicate m 0), fp2, by omega, by go_num, by rw [List.length_set]; exact X3.out, rows_set X10.out (by simp; omega), h3, h4⟩
          case measure => simp [intOf]; omega
      · obtain rfl : k = 3 := by omega
        have q0 := SR.out.b0.cell
        have f0 := SR.out.b0.free
        go_wp2
        refine bodyPost_ret (v := .agg #[.slice none 0 0, .slice (some ⟨gL, 0, none⟩) 3 c']) (by simp [results, Try.results22, go_sem, q0]) rfl ?_
        have hr := kM.rdA SR.out.fr
        rw [X3.out] at hr
        exact am_end hg hr (kM.ok_small hn (by simp) (by rw [X3.out]; omega) (by simp) X10.out) CR.out (by omega) SR.out.tch
  have b5 : (r == 5) = false := by simpa using r5
  by_cases r6 : r = 6
  · subst r6
    clear r0 r1 r2 r3 r4 r5
    go_wp2
    refine bodyPost_ret (v := .agg #[.slice none 0 0, .slice none 0 0]) (by simp [results, Try.results22, go_sem, q0]) rfl ?_
    have t2 := (TchF.put w5 ⟨g5, 0, none⟩ (.slice none 0 0) (fp := [g5]) (by simp)).trans (TchF.put (w5.setCell ⟨g5, 0, none⟩ (.slice none 0 0)) ⟨g5, 1, none⟩ (.slice none 0 0) (fp := [g5]) (by simp))
    have h5 := ST.out.h5
    exact am_end (dz := ([], [])) hg (fun wx _ _ => kM.fr_rd (kM.fr_nil wx 0 0)) kM.ok_nil (CA.out.tchF t2 (fun i hi => by simp at hi; omega)) (by omega) (ST.out.tch.step t2 (fun i hi => .inr (by simp at hi; omega)))
  have b6 : (r == 6) = false := by simpa using r6
  clear r0 r1 r2 r3 r4 r5 r6
  go_wp2
  refine bodyPost_ret (v := .agg #[.slice A n c, .slice A' 3 c']) (by simp [results, Try.results22, go_sem, q0]) rfl ?_
  exact FIN.out _ d _ _ ST.out (CA.out.more (by omega)) HD1.out HD2.out R1.out R2.out
end Go.Proofs.Ytifdpmpconjhmaa
