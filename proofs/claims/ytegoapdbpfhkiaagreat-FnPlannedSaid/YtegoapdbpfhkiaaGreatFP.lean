/- Draws for the law on plans. (Printed by mkfp.py.) -/
import Derived.Test.YtegoapdbpfhkiaaGreatGU
namespace Go.Proofs.YtegoapdbpfhkiaaGreat
open Go.RowKit Go.Sort
set_option linter.unusedVariables false

set_option maxRecDepth 100000 in
set_option maxHeartbeats 1000000 in
theorem cu.itemsWanted_m (w : World) (g N : Nat) (h : Cur w g N) (hN : N ≤ 4611686018427000000) :
    Calls Tryz.prog 55 #[.pointer (some ⟨g, 0, none⟩)] w fun e w' => ∃ z : Int, e = .returned (.int .i64 z) ∧ 0 ≤ z ∧ z ≤ 15 ∧ Cur w' g (N + 2) ∧ TchF [g] w w' := by
  have hg := h.lt
  have AM := hide (cu.among_m (w.alloc (.cells #[.int .i64 1, .int .i64 2, .int .i64 3, .int .i64 4, .int .i64 6, .int .i64 14, .int .i64 15, .int .i64 0] 3)) g N w.heap.size 8 [1, 2, 3, 4, 6, 14, 15, 0] (h.ext (Ext.alloc _ _)) hN (Blk.new rfl _ _) (by omega) (by decide) (by decide))
  clear h
  go_enter Tryz.func55, Tryz.ntmps55
  go_wp2_with fail
  refine AM.out.mono ?_
  rintro e w1 ⟨r, rfl, hr, c1, k1⟩
  have C1 := hide c1
  have K1 := hide ((TchF.of_ext (Ext.alloc w (.cells #[.int .i64 1, .int .i64 2, .int .i64 3, .int .i64 4, .int .i64 6, .int .i64 14, .int .i64 15, .int .i64 0] 3)) (fp := [g])).trans k1)
  have hb : 0 ≤ r ∧ r ≤ 15 := by
    simp only [List.mem_cons, List.not_mem_nil, or_false] at hr
    omega
  clear c1 k1 hr
  go_wp2
  go_ret
  exact ⟨r, rfl, by omega, by omega, C1.out, K1.out⟩
abbrev CPost (w : World) (e : Ending) (w' : World) : Prop := ∃ (A1 : Option Addr) (n1 c1 : Nat) (A2 : Option Addr) (n2 c2 : Nat) (r bo k f : Int), e = .returned (.agg #[.slice A1 n1 c1, .slice A2 n2 c2, .int .i64 r, .int .i64 bo, .int .i64 k, .int .i64 f]) ∧
  CoR w.heap.size w' (.agg #[.slice A1 n1 c1, .slice A2 n2 c2, .int .i64 r, .int .i64 bo, .int .i64 k, .int .i64 f]) ∧ Ext w w'
set_option maxRecDepth 100000 in
set_option maxHeartbeats 2000000 in
theorem s.DrawMostSingles_m (w : World) (A : Option Addr) (n c : Nat) (h : ArgB w A n c) : Calls Tryz.prog 15 #[.slice A n c] w fun e w' => CPost w e w' := by
  obtain ⟨W0, hW0⟩ : ∃ W0, Hid (W0 = (w.alloc (.cells zC 26)).alloc (.cells #[.slice A n c, .int .i64 0, .int .u64 0] 67)) := ⟨_, rfl⟩
  obtain ⟨g, hg⟩ : ∃ g, Hid (g = w.heap.size + 1) := ⟨_, rfl⟩
  have CU : Hid (Cur W0 g 0) := by
    rw [hW0.out, hg.out]
    have := Cur.new (h.ext (Ext.alloc w (.cells zC 26)))
    show Cur _ _ _
    simpa using this
  have X : Hid (Ext w W0) := by rw [hW0.out]; exact (Ext.alloc w _).trans (Ext.alloc _ _)
  have BX : Hid (Blk W0 w.heap.size zC 26) := by rw [hW0.out]; exact (Blk.new rfl _ _).alloc _
  have gl : w.heap.size < g := by rw [hg.out]; omega
  have wl := BX.out.lt
  clear h
  go_enter Tryz.func15, Tryz.ntmps15
  go_wp2_with fail
  rw [← hW0.out, ← hg.out]
  clear hW0 hg
  refine (cu.anyCodeT W0 W0 g 0 _ (DS.init CU.out) (by omega)).mono ?_
  rintro e w1 ⟨T1, A1, n1, c1, A2, n2, c2, r, bo, k, f, rfl, m1, m2, f1, s1, s2⟩
  have BY := hide (BX.out.tchF f1.ds.tch (by simp; omega))
  have Y := hide (f1.ds.tch.ext0 X.out (by omega))
  have HC := hide (f1.ds.ts.code s1 s2 r bo k f)
  clear f1 s1 s2 CU X BX
  have q0 := BY.out.cell
  have f0 := BY.out.free
  go_wp2
  refine bodyPost_ret (v := .agg #[.slice A1 n1 c1, .slice A2 n2 c2, .int .i64 r, .int .i64 bo, .int .i64 k, .int .i64 f]) (by simp [results, Tryz.results15, go_sem, q0]) rfl ?_
  have sn := Since.put6 (lo := W0.heap.size) w1 wl (.slice A1 n1 c1) (.slice A2 n2 c2) (.int .i64 r) (.int .i64 bo) (.int .i64 k) (.int .i64 f)
  exact ⟨A1, n1, c1, A2, n2, c2, r, bo, k, f, rfl, (HC.out.since sn).less (by omega), Y.out.tchF (set6_tch _ _ _ _ _ _ _ _) (by simp)⟩
abbrev CNPost (w : World) (e : Ending) (w' : World) : Prop := ∃ (A1 : Option Addr) (n1 c1 : Nat) (A2 : Option Addr) (n2 c2 : Nat) (r bo k f : Int) (z : Int), e = .returned (.tuple #[.agg #[.slice A1 n1 c1, .slice A2 n2 c2, .int .i64 r, .int .i64 bo, .int .i64 k, .int .i64 f], .int .i64 z]) ∧ 0 ≤ z ∧ z ≤ 15 ∧
  CoR w.heap.size w' (.agg #[.slice A1 n1 c1, .slice A2 n2 c2, .int .i64 r, .int .i64 bo, .int .i64 k, .int .i64 f]) ∧ Ext w w'
section
variable {W0 w w' : World} {g M b z0 n1 c1 n2 c2 n c p : Nat} {T T' : Typ} {A1 A2 A : Option Addr} {r bo k f : Int}
theorem RgU.setL {A3 : Option Addr} {n3 c3 : Nat} (h : RgU W0 g M T w b z0 A1 n1 c1 A2 n2 c2 r bo k f A n c p) (hb : W0.heap.size ≤ b) (s : ST T [.int] 3 A3 n3 c3) : RgU W0 g M T (w.setCell ⟨b, 1, none⟩ (.slice A3 n3 c3)) b z0 A1 n1 c1 A3 n3 c3 r bo k f A n c p :=
  ⟨h.df.bx h.bb hb 1 _, h.bb.set 1 _, h.bz.far (by have := h.zl; have := h.df.ds.hg; show z0 ≠ b; omega) _, h.zl, h.s1, s, h.l⟩
/-- The limits replaced by a literal. -/
theorem RgU.litL (h : RgU W0 g M T w b z0 A1 n1 c1 A2 n2 c2 r bo k f A n c p) (hb : W0.heap.size ≤ b) (cs : Array Value) (m : Nat) (hm : m ≤ 64) (hs : cs.size = m) (hel : ∀ q, q < m → ∃ z : Int, cs[q]? = some (.int .i64 z)) :
    ∃ T', RgU W0 g M T' ((w.setCell ⟨b, 1, none⟩ (.slice (some ⟨w.heap.size, 0, none⟩) m m)).alloc (.cells cs 3)) b z0 A1 n1 c1 (some ⟨w.heap.size, 0, none⟩) m m r bo k f A n c p := by
  obtain ⟨T', d, s, t⟩ := h.df.ds.lit cs m 3 [.int] hm (by omega) (by simpa using hs) (fun i hi j k hk => by
    cases j with
    | zero =>
      simp only [List.getElem?_cons_zero, Option.some.injEq] at hk
      subst hk
      obtain ⟨z, hz⟩ := hel i hi
      exact ⟨_, by simpa using hz, z, rfl⟩
    | succ j => simp at hk)
  have hr := (h.stp s d).setL hb t
  rw [World.setCell_alloc_past _ b 1 _ h.bb.lt] at hr
  exact ⟨T', hr⟩
end
set_option maxRecDepth 100000 in
set_option maxHeartbeats 8000000 in
theorem s.DrawBestNames_m (w : World) (A : Option Addr) (n c : Nat) (h : ArgB w A n c) : Calls Tryz.prog 23 #[.slice A n c] w fun e w' => CNPost w e w' := by
  obtain ⟨W0, hW0⟩ : ∃ W0, Hid (W0 = (w.alloc (.cells zC 26)).alloc (.cells #[.slice A n c, .int .i64 0, .int .u64 0] 67)) := ⟨_, rfl⟩
  obtain ⟨g, hg⟩ : ∃ g, Hid (g = w.heap.size + 1) := ⟨_, rfl⟩
  have CU : Hid (Cur W0 g 0) := by
    rw [hW0.out, hg.out]
    have := Cur.new (h.ext (Ext.alloc w (.cells zC 26)))
    show Cur _ _ _
    simpa using this
  have X : Hid (Ext w W0) := by rw [hW0.out]; exact (Ext.alloc w _).trans (Ext.alloc _ _)
  have BX : Hid (Blk W0 w.heap.size zC 26) := by rw [hW0.out]; exact (Blk.new rfl _ _).alloc _
  have gl : w.heap.size < g := by rw [hg.out]; omega
  have wl := BX.out.lt
  clear h
  go_enter Tryz.func23, Tryz.ntmps23
  go_wp2_with fail
  rw [← hW0.out, ← hg.out]
  clear hW0 hg
  refine (cu.anyCodeT W0 W0 g 0 _ (DS.init CU.out) (by omega)).mono ?_
  rintro e w1 ⟨T1, A1, n1, c1, A2, n2, c2, r, bo, k, f, rfl, m1, m2, f1, s1, s2⟩
  obtain ⟨b, hb⟩ : ∃ b, Hid (w1.heap.size = b) := ⟨_, rfl⟩
  have bw : W0.heap.size ≤ b := by have := f1.ds.size; have := hb.out; omega
  have R := hide (RgU.mk (p := 0) (f1.ext (Ext.alloc w1 (.cells #[.slice A1 n1 c1, .slice A2 n2 c2, .int .i64 r, .int .i64 bo, .int .i64 k, .int .i64 f] 26))) (Bx.newAt f1.ds hb.out #[.slice A1 n1 c1, .slice A2 n2 c2, .int .i64 r, .int .i64 bo, .int .i64 k, .int .i64 f] 26) ((BX.out.tchF f1.ds.tch (by simp; omega)).ext (Ext.alloc w1 (.cells #[.slice A1 n1 c1, .slice A2 n2 c2, .int .i64 r, .int .i64 bo, .int .i64 k, .int .i64 f] 26))) gl s1 s2 ST.none_)
  clear f1 s1 s2 BX CU
  go_upto_region 3 with fail
  rw [hb.out]
  clear hb
  generalize w1.alloc (.cells #[.slice A1 n1 c1, .slice A2 n2 c2, .int .i64 r, .int .i64 bo, .int .i64 k, .int .i64 f] 26) = w2 at *
  go_cut [18] (fun s18 wx => ∃ B, s18 = .bool B ∧ RgU W0 g (0 + 1100 + 2) T1 wx b w.heap.size A1 n1 c1 A2 n2 c2 r bo k f none 0 0 0)
  case first =>
    go_wp2_with fail
    refine (cu.one_m _ g _ _ R.out.df.ds.cu (by omega) (by unfold InR; omega)).mono ?_
    rintro e w3 ⟨q, rfl, ca, ka⟩
    have V := hide (R.out.step (Ext.refl _) ka ca)
    have q6 := V.out.bb.cell
    have bl := V.out.bb.lt
    clear ca ka
    cases q
    · go_wp2
      go_meet
      exact ⟨false, rfl, V.out⟩
    · go_wp2
      go_meet
      exact ⟨_, rfl, V.out⟩
  case rest =>
    obtain ⟨B, rfl, st⟩ := hcut
    clear R
    have V := hide st
    clear st
    go_upto_if 18 with fail
    go_cut [] (fun wx => ∃ T' A3 n3 c3, RgU W0 g (0 + 1100 + 2) T' wx b w.heap.size A1 n1 c1 A3 n3 c3 r bo k f none 0 0 0)
    case first =>
      cases B
      · go_wp2
        go_meet
        exact ⟨T1, A2, n2, c2, V.out⟩
      · have q5 := V.out.bb.cell
        have f5 := V.out.bb.free
        have bl := V.out.bb.lt
        go_wp2
        go_meet
        obtain ⟨T', hT⟩ := V.out.litL bw #[.int .i64 9, .int .i64 9, .int .i64 9, .int .i64 9, .int .i64 9] 5 (by omega) rfl (fun q hq => by
          rcases (show q = 0 ∨ q = 1 ∨ q = 2 ∨ q = 3 ∨ q = 4 by omega) with e | e | e | e | e <;> subst e <;> exact ⟨9, rfl⟩)
        exact ⟨T', _, _, _, hT⟩
    case rest =>
      obtain ⟨T3, A3, n3, c3, st⟩ := hcut
      clear V
      have SC := hide st
      clear st
      have q5 := SC.out.bb.cell
      have bl := SC.out.bb.lt
      go_wp2_with fail
      go_region_law (go_simp; go_at_call 55; refine (cu.itemsWanted_m _ g _ (SC.out.df.ds.cu.ext (by first | with_reducible exact Ext.refl _ | with_reducible exact Ext.drew _)) (by omega)).mono ?_; rintro e w7 ⟨z, rfl, z0, z1, c7, k7⟩; have SC := hide (SC.out.step (by first | with_reducible exact Ext.refl _ | with_reducible exact Ext.drew _) k7 c7); have q5 := SC.out.bb.cell; have q0 := SC.out.bz.cell; have f0 := SC.out.bz.free; have bl := SC.out.bb.lt; have bl0 := SC.out.bz.lt; clear c7 k7)
      all_goals
        go_wp2
        refine bodyPost_ret (v := .tuple #[.agg #[.slice A1 n1 c1, .slice A3 n3 c3, .int .i64 r, .int .i64 bo, .int .i64 k, .int .i64 f], .int .i64 z]) (by simp [results, Tryz.results23, go_sem, q0]) rfl ?_
        have ho := SC.out.out w rfl X.out (.slice A1 n1 c1) (.slice A3 n3 c3) (.int .i64 r) (.int .i64 bo) (.int .i64 k) (.int .i64 f)
        exact ⟨A1, n1, c1, A3, n3, c3, r, bo, k, f, z, rfl, z0, z1, ho.1, ho.2.2⟩
set_option maxRecDepth 100000 in
set_option maxHeartbeats 2000000 in
theorem s.DrawBestSingles_m (w : World) (A : Option Addr) (n c : Nat) (h : ArgB w A n c) : Calls Tryz.prog 4 #[.slice A n c] w fun e w' => CNPost w e w' := by
  obtain ⟨W0, hW0⟩ : ∃ W0, Hid (W0 = w.alloc (.cells zC 26)) := ⟨_, rfl⟩
  have X : Hid (Ext w W0) := by rw [hW0.out]; exact Ext.alloc w _
  have BX : Hid (Blk W0 w.heap.size zC 26) := by rw [hW0.out]; exact Blk.new rfl _ _
  have HA := hide (h.ext X.out)
  clear h
  go_enter Tryz.func4, Tryz.ntmps4
  go_wp2_with fail
  rw [← hW0.out]
  clear hW0
  refine (s.DrawBestNames_m W0 A n c HA.out).mono ?_
  rintro e w1 ⟨A1, n1, c1, A2, n2, c2, r, bo, k, f, z, rfl, z0, z1, hc, x1⟩
  have BY := hide (BX.out.ext x1)
  have HC := hide hc
  have Y := hide (X.out.trans x1)
  have q0 := BY.out.cell
  have f0 := BY.out.free
  have wl := BX.out.lt
  clear hc x1 BX X HA
  go_wp2
  refine bodyPost_ret (v := .tuple #[.agg #[.slice A1 n1 c1, .slice A2 n2 c2, .int .i64 r, .int .i64 bo, .int .i64 k, .int .i64 f], .int .i64 z]) (by simp [results, Tryz.results4, go_sem, q0]) rfl ?_
  have sn := Since.put6 (lo := W0.heap.size) w1 wl (.slice A1 n1 c1) (.slice A2 n2 c2) (.int .i64 r) (.int .i64 bo) (.int .i64 k) (.int .i64 f)
  exact ⟨A1, n1, c1, A2, n2, c2, r, bo, k, f, z, rfl, z0, z1, (HC.out.since sn).less (by omega), Y.out.tchF (set6_tch _ _ _ _ _ _ _ _) (by simp)⟩
end Go.Proofs.YtegoapdbpfhkiaaGreat
