/- Draws of codes: any code. -/
import Derived.Test.YtaoeomgehpdedaaGreatEF
import Derived.Test.YtaoeomgehpdedaaGreatGE
namespace Go.Proofs.YtaoeomgehpdedaaGreat
open Go.RowKit Go.Sort
set_option linter.unusedVariables false

section
variable {w0 ws w w' : World} {g M M' b : Nat} {Ts T T' : Typ} {A1 : Option Addr} {n1 c1 : Nat} {A2 : Option Addr} {n2 c2 : Nat} {r bo k f : Int}
/-- A cell of an element stored. -/
theorem CoU.putE (h : CoU w0 ws g M Ts T w b A1 n1 c1 A2 n2 c2 r bo k f) {x i j : Nat} {kd : VK} {u : Value} (hx : A1 = some ⟨x, 0, none⟩) (hi : i < n1) (hj : ksEl[j]? = some kd) (hu : VT T kd u) : CoU w0 ws g M Ts T (w.setCell ⟨x, i * 4 + j, none⟩ u) b A1 n1 c1 A2 n2 c2 r bo k f := by
  obtain ⟨x', m, e, hT, hm⟩ := h.s1.pos (by omega)
  rw [hx] at e
  obtain rfl : x = x' := congrArg Addr.block (Option.some.inj e)
  have hn : T x ≠ none := by rw [hT]; simp
  exact ⟨h.df.store hT (i := i) hj hu, h.b0.store hn _ _, h.bb.store hn _ _, h.s1, h.s2, h.hb⟩
theorem CoU.putL (h : CoU w0 ws g M Ts T w b A1 n1 c1 A2 n2 c2 r bo k f) {x i : Nat} (hx : A2 = some ⟨x, 0, none⟩) (hi : i < n2) (z : Int) : CoU w0 ws g M Ts T (w.setCell ⟨x, i, none⟩ (.int .i64 z)) b A1 n1 c1 A2 n2 c2 r bo k f := by
  obtain ⟨x', m, e, hT, hm⟩ := h.s2.pos (by omega)
  rw [hx] at e
  obtain rfl : x = x' := congrArg Addr.block (Option.some.inj e)
  have hn : T x ≠ none := by rw [hT]; simp
  exact ⟨h.df.putI hT i z, h.b0.store hn _ _, h.bb.store hn _ _, h.s1, h.s2, h.hb⟩
theorem CoU.elem (h : CoU w0 ws g M Ts T w b A1 n1 c1 A2 n2 c2 r bo k f) {x i : Nat} (hx : A1 = some ⟨x, 0, none⟩) (hi : i < n1) : ∃ y a1 a2 a3, w.cell? ⟨x, i * 4, none⟩ = some (.string (bs y)) ∧ w.cell? ⟨x, i * 4 + 1, none⟩ = some (.int .i64 a1) ∧ w.cell? ⟨x, i * 4 + 2, none⟩ = some (.int .i64 a2) ∧ w.cell? ⟨x, i * 4 + 3, none⟩ = some (.int .i64 a3) ∧ (∀ j, w.frozen? ⟨x, j, none⟩ = false) ∧ x < w.heap.size := by
  obtain ⟨x', y, a1, a2, a3, e, hy, hT, hl, e0, e1, e2, e3⟩ := h.df.ds.el4 h.s1 hi
  rw [hx] at e
  obtain rfl : x = x' := congrArg Addr.block (Option.some.inj e)
  exact ⟨y, a1, a2, a3, e0, e1, e2, e3, h.df.ds.ts.free hT, hl⟩
theorem CoU.lim (h : CoU w0 ws g M Ts T w b A1 n1 c1 A2 n2 c2 r bo k f) {x i : Nat} (hx : A2 = some ⟨x, 0, none⟩) (hi : i < n2) : ∃ z, w.cell? ⟨x, i, none⟩ = some (.int .i64 z) ∧ (∀ j, w.frozen? ⟨x, j, none⟩ = false) ∧ x < w.heap.size := by
  obtain ⟨x', v, e, h1, h2, h3, h4, h5⟩ := h.df.ds.ts.load h.s2 hi (show [VK.int][0]? = some .int from rfl)
  rw [hx] at e
  obtain rfl : x = x' := congrArg Addr.block (Option.some.inj e)
  obtain ⟨z, rfl⟩ : ∃ z : Int, v = .int .i64 z := h2
  exact ⟨z, by simpa using h1, h.df.ds.ts.free h5, h4⟩
theorem CoU.setF (h : CoU w0 ws g M Ts T w b A1 n1 c1 A2 n2 c2 r bo k f) (j : Nat) (u : Value) {r' bo' k' f' : Int} (he : (#[Value.slice A1 n1 c1, .slice A2 n2 c2, .int .i64 r, .int .i64 bo, .int .i64 k, .int .i64 f] : Array Value).setIfInBounds j u = #[.slice A1 n1 c1, .slice A2 n2 c2, .int .i64 r', .int .i64 bo', .int .i64 k', .int .i64 f']) : CoU w0 ws g M Ts T (w.setCell ⟨b, j, none⟩ u) b A1 n1 c1 A2 n2 c2 r' bo' k' f' :=
  ⟨(h.put j u).1, (h.put j u).2, he ▸ h.bb.set j u, h.s1, h.s2, h.hb⟩
end

set_option maxRecDepth 100000 in
set_option maxHeartbeats 20000000 in
theorem cu.anyCodeT (w0 w : World) (g M : Nat) (T : Typ) (h : DS w0 g 64 M T w) (hM : M ≤ 4611686018400000000) :
    Calls Tryz.prog 112 #[.pointer (some ⟨g, 0, none⟩)] w fun e w' => ∃ (T' : Typ) (A1 : Option Addr) (n1 c1 : Nat) (A2 : Option Addr) (n2 c2 : Nat) (r bo k f : Int), e = .returned (.agg #[.slice A1 n1 c1, .slice A2 n2 c2, .int .i64 r, .int .i64 bo, .int .i64 k, .int .i64 f]) ∧ n1 ≤ 25 ∧ n2 ≤ 6 ∧ DF w0 w g 64 (M + 1100) T T' w' ∧ ST T' ksEl 84 A1 n1 c1 ∧ ST T' [.int] 3 A2 n2 c2 := by
  have hg := h.cg
  have D0 := hide ((DF.start h).ext (Ext.alloc w (.cells zC 26)))
  have B0 := hide (Bx.new h zC 26)
  clear h
  go_enter Tryz.func112, Tryz.ntmps112
  go_wp2_with fail
  refine (cu.pointsT w0 _ g M T D0.out.ds (by omega)).mono ?_
  rintro e w1 ⟨T1, A1, n1, c1, A2, c2, rp, q2, q3, q4, rfl, m1, m2, f1, t1, t2⟩
  have D1 := hide (D0.out.call f1)
  have B1 := hide (B0.out.stp f1.sp)
  obtain ⟨b, hb⟩ : ∃ b, Hid (w1.heap.size = b) := ⟨_, rfl⟩
  have U := hide (CoU.mk (D1.out.ext (Ext.alloc w1 (.cells #[.slice A1 n1 c1, .slice A2 5 c2, .int .i64 rp, .int .i64 q2, .int .i64 q3, .int .i64 q4] 26))) (B1.out.ext (Ext.alloc _ _)) (Bx.newAt D1.out.ds hb.out _ _) t1 t2 (by have := B1.out.lt; have := hb.out; omega))
  clear f1 t1 t2 D1 B1 D0 B0
  go_upto_region 2 with fail
  rw [hb.out]
  clear hb
  generalize w1.alloc (.cells #[.slice A1 n1 c1, .slice A2 5 c2, .int .i64 rp, .int .i64 q2, .int .i64 q3, .int .i64 q4] 26) = w2 at *
  have cA := U.out.cE
  have mz : (n1 : Int) ≤ 24 := by omega
  go_wp2_with fail
  refine (cu.pick_m _ g _ n1 U.out.df.ds.cu (by omega) (by unfold InR; omega)).mono ?_
  rintro e w3 ⟨ri, rfl, ri0, ri1, -, ca, ka⟩
  obtain ⟨i, rfl⟩ : ∃ i : Nat, ri = i := ⟨ri.toNat, by omega⟩
  have hi : (i : Int) < n1 := ri1 (by omega)
  have hi2 : i < n1 := by omega
  have V1 := hide (U.out.curs ka ca)
  clear ca ka U cA ri1 ri0
  go_wp2_with fail
  refine (cu.pick_m _ g _ 30 V1.out.df.ds.cu (by omega) (by unfold InR; omega)).mono ?_
  rintro e w4 ⟨q, rfl, -, -, -, ca, ka⟩
  have V := hide (V1.out.curs ka ca)
  clear ca ka V1
  obtain ⟨xe, me, hA1, -⟩ := V.out.s1.pos (by omega)
  obtain ⟨xl, ml, hA2, -⟩ := V.out.s2.pos (by omega)
  subst hA1 hA2
  go_upto_block 0 with fail
  go_cut [] (fun wx => ∃ (T' : Typ) (A1 : Option Addr) (n1 c1 : Nat) (A2 : Option Addr) (n2 c2 : Nat) (r bo k f : Int), n1 ≤ 25 ∧ n2 ≤ 6 ∧ CoU w0 w g (M + 1050) T T' wx b A1 n1 c1 A2 n2 c2 r bo k f)
  case first =>
    have cA := V.out.cE
    have cL := V.out.cL
    have bl := V.out.bb.lt
    have fb := V.out.free
    have vg := V.out.df.ds.cg
    by_cases h0 : q = 0
    · subst h0
      skip
      go_wp2_with fail
      go_region_law (go_simp; go_at_call 101; refine (cu.of_litD (n := 6) V.out.df.ds rfl (by omega) (by rfl) (by decide) (by decide) (by intro v hv; simp only [List.mem_cons, List.not_mem_nil, or_false] at hv; rcases hv with h | h | h | h | h | h <;> subst h <;> first | exact ⟨[], rfl, by decide⟩ | exact ⟨_, rfl, by decide⟩)).mono ?_; rintro e w5 ⟨y, rfl, hy, ca, ka⟩; have U1 := hide (V.out.curs ka ca); have HY := hide hy; have cB := U1.out.cE; obtain ⟨y0, a1, a2, a3, e0, e1, e2, e3, fx, -⟩ := U1.out.elem rfl hi2; clear ca ka hy)
      all_goals
        go_wp2
        go_meet
        exact ⟨T1, _, n1, c1, _, 5, c2, rp, q2, q3, q4, by omega, by omega, (U1.out.putE (i := i) (j := 0) rfl hi2 rfl (isStr_of HY.out)).more (by omega)⟩
    have b0 : (q == 0) = false := by simp [h0]
    by_cases h1 : q = 1
    · subst h1
      skip
      go_wp2_with fail
      go_region_law (go_simp; go_at_call 64; refine (cu.amongT V.out.df.ds (by omega) [-1, 4, 5] (by decide) (by decide) ((Ext.alloc w4 (.cells #[.int .i64 (-1), .int .i64 4, .int .i64 5] 3)).trans (Ext.drew _)) (Blk.new rfl _ _) (by omega) _).mono ?_; rintro e w5 ⟨z, rfl, -, ca, ka⟩; have U1 := hide (V.out.step ((Ext.alloc w4 (.cells #[.int .i64 (-1), .int .i64 4, .int .i64 5] 3)).trans (Ext.drew _)) ka ca); have cB := U1.out.cE; obtain ⟨y0, a1, a2, a3, e0, e1, e2, e3, fx, -⟩ := U1.out.elem rfl hi2; clear ca ka)
      all_goals
        go_wp2
        go_meet
        exact ⟨T1, _, n1, c1, _, 5, c2, rp, q2, q3, q4, by omega, by omega, (U1.out.putE (i := i) (j := 1) rfl hi2 rfl ⟨z, rfl⟩).more (by omega)⟩
    have b1 : (q == 1) = false := by simp [h1]
    by_cases h2 : q = 2
    · subst h2
      skip
      go_wp2_with fail
      go_region_law (go_simp; go_at_call 64; refine (cu.amongT V.out.df.ds (by omega) [-1, 4, 5] (by decide) (by decide) ((Ext.alloc w4 (.cells #[.int .i64 (-1), .int .i64 4, .int .i64 5] 3)).trans (Ext.drew _)) (Blk.new rfl _ _) (by omega) _).mono ?_; rintro e w5 ⟨z, rfl, -, ca, ka⟩; have U1 := hide (V.out.step ((Ext.alloc w4 (.cells #[.int .i64 (-1), .int .i64 4, .int .i64 5] 3)).trans (Ext.drew _)) ka ca); have cB := U1.out.cE; obtain ⟨y0, a1, a2, a3, e0, e1, e2, e3, fx, -⟩ := U1.out.elem rfl hi2; clear ca ka)
      all_goals
        go_wp2
        go_meet
        exact ⟨T1, _, n1, c1, _, 5, c2, rp, q2, q3, q4, by omega, by omega, (U1.out.putE (i := i) (j := 2) rfl hi2 rfl ⟨z, rfl⟩).more (by omega)⟩
    have b2 : (q == 2) = false := by simp [h2]
    by_cases h3 : q = 3
    · subst h3
      skip
      go_wp2_with fail
      go_region_law (go_simp; go_at_call 64; refine (cu.amongT V.out.df.ds (by omega) [0, 1, 2000, 2001] (by decide) (by decide) ((Ext.alloc w4 (.cells #[.int .i64 0, .int .i64 1, .int .i64 2000, .int .i64 2001] 3)).trans (Ext.drew _)) (Blk.new rfl _ _) (by omega) _).mono ?_; rintro e w5 ⟨z, rfl, -, ca, ka⟩; have U1 := hide (V.out.step ((Ext.alloc w4 (.cells #[.int .i64 0, .int .i64 1, .int .i64 2000, .int .i64 2001] 3)).trans (Ext.drew _)) ka ca); have cB := U1.out.cE; obtain ⟨y0, a1, a2, a3, e0, e1, e2, e3, fx, -⟩ := U1.out.elem rfl hi2; clear ca ka)
      all_goals
        go_wp2
        go_meet
        exact ⟨T1, _, n1, c1, _, 5, c2, rp, q2, q3, q4, by omega, by omega, (U1.out.putE (i := i) (j := 3) rfl hi2 rfl ⟨z, rfl⟩).more (by omega)⟩
    have b3 : (q == 3) = false := by simp [h3]
    by_cases h4 : q = 4
    · subst h4
      skip
      have SC := hide V.out
      go_wp2_with fail
      go_region_law (first
        | (go_simp; go_at_call 48; have cg := SC.out.df.ds.cg; refine (cu.pick_m _ g _ 5 (SC.out.df.ds.cu.ext (by first | with_reducible exact Ext.refl _ | with_reducible exact Ext.drew _ | with_reducible exact Ext.alloc _ _ | with_reducible exact Ext.ad)) (by omega) (by unfold InR; omega)).mono ?_; rintro e w7 ⟨zi, rfl, zi0, zi1, -, c7, k7⟩; obtain ⟨ix, rfl⟩ : ∃ ix : Nat, zi = ix := ⟨zi.toNat, by omega⟩; have hix : (ix : Int) < 5 := zi1 (by omega); (try have LB := hide ((Blk.new rfl _ _).tchF k7 (by simp; omega))); (try have LB := hide ((Blk.newD rfl _ _).tchF k7 (by simp; omega))); have SC := hide (SC.out.step (by first | with_reducible exact Ext.refl _ | with_reducible exact Ext.drew _ | with_reducible exact Ext.alloc _ _ | with_reducible exact Ext.ad) k7 c7); have cA := SC.out.cL; have bl := SC.out.bb.lt; clear c7 k7 zi1)
        | (go_simp; go_at_call 64; have cg := SC.out.df.ds.cg; refine (cu.amongC SC.out.df.ds (by omega) [-1, 9, 10] (by decide) (by decide) (by first | with_reducible exact Ext.refl _ | with_reducible exact Ext.drew _ | with_reducible exact Ext.alloc _ _ | with_reducible exact Ext.ad) (by first | with_reducible exact Blk.new rfl _ _ | with_reducible exact Blk.newD rfl _ _ | with_reducible exact LB.out) (by rfl) (by omega) _).mono ?_; rintro e w8 ⟨z, rfl, -, c8, k8⟩; have SC := hide (SC.out.step (by first | with_reducible exact Ext.refl _ | with_reducible exact Ext.drew _ | with_reducible exact Ext.alloc _ _ | with_reducible exact Ext.ad) k8 c8); have cA := SC.out.cL; have bl := SC.out.bb.lt; obtain ⟨z0, ez, fz, -⟩ := SC.out.lim rfl (show ix < 5 by omega); clear c8 k8))
      all_goals
        go_wp2
        go_meet
        exact ⟨T1, _, n1, c1, _, 5, c2, rp, q2, q3, q4, by omega, by omega, (SC.out.putL rfl (show ix < 5 by omega) z).more (by omega)⟩
    have b4 : (q == 4) = false := by simp [h4]
    by_cases h5 : q = 5
    · subst h5
      skip
      go_wp2_with (at_builtin; refine wpList_append_A (ks := [.int]) (by rfl) (.tmp 69) (.tmp 70) (by rfl) elemN_ints (by rfl) (by rfl) rfl V.out.df.ds.ts V.out.df.ds.size V.out.s2 (by decide) (E1.one (k := .int) ⟨0, rfl⟩) (by omega) (by decide) (by omega) ?_; intro A5 c5 w8 T5 ap; have S7 := hide ((V.out.ext (Ext.alloc _ _)).appL ap); have fD := S7.out.1.free 1; have cD := S7.out.1.cL; clear ap)
      go_meet
      exact ⟨T5, _, n1, c1, A5, 6, c5, rp, q2, q3, q4, by omega, by omega, S7.out.2.1.more (by omega)⟩
    have b5 : (q == 5) = false := by simp [h5]
    by_cases h6 : q = 6
    · subst h6
      skip
      go_wp2_with fail
      refine (cu.amongT V.out.df.ds (by omega) [0, 3, 4] (by decide) (by decide) (Ext.alloc w4 (.cells #[.int .i64 0, .int .i64 3, .int .i64 4] 3)) (Blk.new rfl _ _) (by omega) _).mono ?_
      rintro e w5 ⟨z, rfl, -, ca, ka⟩
      have U1 := hide (V.out.step (Ext.alloc w4 (.cells #[.int .i64 0, .int .i64 3, .int .i64 4] 3)) ka ca)
      have q5 := U1.out.bb.cell 2
      have f5 := U1.out.free
      clear ca ka
      go_wp2
      go_meet
      exact ⟨T1, _, n1, c1, _, 5, c2, z, q2, q3, q4, by omega, by omega, (U1.out.setF 2 (.int .i64 z) rfl).more (by omega)⟩
    have b6 : (q == 6) = false := by simp [h6]
    by_cases h7 : q = 7
    · subst h7
      skip
      go_wp2_with fail
      refine (cu.amongT V.out.df.ds (by omega) [-1, 20, 21] (by decide) (by decide) (Ext.alloc w4 (.cells #[.int .i64 (-1), .int .i64 20, .int .i64 21] 3)) (Blk.new rfl _ _) (by omega) _).mono ?_
      rintro e w5 ⟨z, rfl, -, ca, ka⟩
      have U1 := hide (V.out.step (Ext.alloc w4 (.cells #[.int .i64 (-1), .int .i64 20, .int .i64 21] 3)) ka ca)
      have q5 := U1.out.bb.cell 3
      have f5 := U1.out.free
      clear ca ka
      go_wp2
      go_meet
      exact ⟨T1, _, n1, c1, _, 5, c2, rp, z, q3, q4, by omega, by omega, (U1.out.setF 3 (.int .i64 z) rfl).more (by omega)⟩
    have b7 : (q == 7) = false := by simp [h7]
    by_cases h8 : q = 8
    · subst h8
      skip
      go_wp2_with fail
      refine (cu.amongT V.out.df.ds (by omega) [49, 50, 100, 101] (by decide) (by decide) (Ext.alloc w4 (.cells #[.int .i64 49, .int .i64 50, .int .i64 100, .int .i64 101] 3)) (Blk.new rfl _ _) (by omega) _).mono ?_
      rintro e w5 ⟨z, rfl, -, ca, ka⟩
      have U1 := hide (V.out.step (Ext.alloc w4 (.cells #[.int .i64 49, .int .i64 50, .int .i64 100, .int .i64 101] 3)) ka ca)
      have q5 := U1.out.bb.cell 4
      have f5 := U1.out.free
      clear ca ka
      go_wp2
      go_meet
      exact ⟨T1, _, n1, c1, _, 5, c2, rp, q2, z, q4, by omega, by omega, (U1.out.setF 4 (.int .i64 z) rfl).more (by omega)⟩
    have b8 : (q == 8) = false := by simp [h8]
    by_cases h9 : q = 9
    · subst h9
      skip
      go_wp2_with fail
      refine (cu.amongT V.out.df.ds (by omega) [-1, 500, 501] (by decide) (by decide) (Ext.alloc w4 (.cells #[.int .i64 (-1), .int .i64 500, .int .i64 501] 3)) (Blk.new rfl _ _) (by omega) _).mono ?_
      rintro e w5 ⟨z, rfl, -, ca, ka⟩
      have U1 := hide (V.out.step (Ext.alloc w4 (.cells #[.int .i64 (-1), .int .i64 500, .int .i64 501] 3)) ka ca)
      have q5 := U1.out.bb.cell 5
      have f5 := U1.out.free
      clear ca ka
      go_wp2
      go_meet
      exact ⟨T1, _, n1, c1, _, 5, c2, rp, q2, q3, z, by omega, by omega, (U1.out.setF 5 (.int .i64 z) rfl).more (by omega)⟩
    have b9 : (q == 9) = false := by simp [h9]
    by_cases h10 : q = 10
    · subst h10
      skip
      go_wp2
      go_meet
      exact ⟨T1, none, 0, 0, _, 5, c2, rp, q2, q3, q4, by omega, by omega, (V.out.setE ST.none_).more (by omega)⟩
    have b10 : (q == 10) = false := by simp [h10]
    by_cases h11 : q = 11
    · subst h11
      skip
      have S2 := hide (V.out.setE (A3 := none) (n3 := 0) (c3 := 0) ST.none_)
      clear V cL bl vg
      go_wp2_with fail
      refine (cu.namesT S2.out.df.ds).mono ?_
      rintro e w5 ⟨T5, x, rfl, d5, s5, n5⟩
      have V2 := hide (S2.out.stp s5 d5)
      have N5 := hide n5
      clear d5 s5 n5 S2 cA fb
      go_wp2_with (at_builtin; refine wpList_append_A (ks := [.str]) (by rfl) (.tmp 103) (.tmp 104) (by rfl) elemN_str (by rfl) (by rfl) rfl V2.out.df.ds.ts V2.out.df.ds.size N5.out (by decide) (E1.one (k := .str) (show IsStr _ from ⟨_, rfl, by decide⟩)) (by omega) (by decide) (by omega) ?_; intro A5 c5 w8 T6 ap; have V3 := hide (V2.out.ext (Ext.alloc w5 (.cells #[.string { data := #[90, 90] }] 9))); have S7 := hide (V3.out.df.ds.app ap); have V4 := hide (V3.out.stp S7.out.2.1 S7.out.1); clear ap V2 V3)
      obtain ⟨xn, mn, hA5, -⟩ := S7.out.2.2.pos (by omega)
      subst hA5
      go_loopw [107] (fun s107 wr => ∃ (k : Nat) (T' : Typ) (A1 : Option Addr) (c1 : Nat), s107 = .int .i64 k ∧ k ≤ 25 ∧ CoU w0 w g (M + 1004) T T' wr b A1 k c1 (some ⟨xl, 0, none⟩) 5 c2 rp q2 q3 q4 ∧ ST T' [.str] 9 (some ⟨xn, 0, none⟩) 25 c5) (fun s107 _ => 25 - (intOf s107).toNat)
      case atStart => exact ⟨0, T6, none, 0, by go_num, by omega, V4.out.more (by omega), S7.out.2.2⟩
      case round =>
        clear V4 S7 N5
        obtain ⟨k, T7, A1, c1, rfl, hk, st, n5⟩ := hrel
        have V := hide st
        have N5 := hide n5
        clear st n5
        by_cases hlt : k < 25
        · have hltz : (k : Int) < 25 := by omega
          obtain ⟨y, cN, hy⟩ := V.out.df.ds.str N5.out hlt
          have HY := hide hy
          have cA := V.out.cE
          have wl := V.out.bb.lt
          clear hy
          go_wp2_with (at_builtin; refine wpList_append_A (ks := ksEl) (by rfl) (.tmp 112) (.tmp 115) (by rfl) elemN_els (by rfl) (by rfl) rfl V.out.df.ds.ts V.out.df.ds.size V.out.s1 (by decide) (E1.el4 HY.out _ _ _) (by omega) (by decide) (by omega) ?_; intro A3 c3 w3 T5 ap; have S3 := hide ((V.out.ext (Ext.alloc _ _)).appE ap); have cD := S3.out.1.cE; have fD := S3.out.1.free 0; clear ap)
          go_roundw
          case rel => exact ⟨k + 1, T5, A3, c3, by go_num, by omega, S3.out.2.1, N5.out.mono S3.out.2.2⟩
          case measure => simp [intOf]; omega
        · obtain rfl : k = 25 := by omega
          go_wp2
          go_meet
          exact ⟨T7, A1, 25, c1, _, 5, c2, rp, q2, q3, q4, by omega, by omega, V.out.more (by omega)⟩
    have b11 : (q == 11) = false := by simp [h11]
    go_wp2
    go_meet
    exact ⟨T1, _, n1, c1, _, 5, c2, rp, q2, q3, q4, by omega, by omega, V.out.more (by omega)⟩
  case rest =>
    obtain ⟨T3, A3, n3, c3, A4, n4, c4, r5, r6, r7, r8, m3, m4, st⟩ := hcut
    have U1 := hide st
    clear st V
    have q0 := U1.out.b0.cell
    have f0 := U1.out.b0.free
    have q5 := U1.out.bb.cell
    go_wp2
    refine bodyPost_ret (v := .agg #[.slice A3 n3 c3, .slice A4 n4 c4, .int .i64 r5, .int .i64 r6, .int .i64 r7, .int .i64 r8]) (by simp [results, Tryz.results112, go_sem, q0]) rfl ?_
    exact ⟨T3, A3, n3, c3, A4, n4, c4, r5, r6, r7, r8, rfl, m3, m4, (U1.out.df.more (by omega)).put6 U1.out.b0 (Nat.le_refl _) _ _ _ _ _ _, U1.out.s1, U1.out.s2⟩
end Go.Proofs.YtaoeomgehpdedaaGreat
