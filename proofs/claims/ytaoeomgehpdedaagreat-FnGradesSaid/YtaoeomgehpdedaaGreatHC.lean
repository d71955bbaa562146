/- Draws of judged lists for the laws. (Printed by jg.py.) -/
import Derived.Test.YtaoeomgehpdedaaGreatHB
namespace Go.Proofs.YtaoeomgehpdedaaGreat
open Go.RowKit Go.Sort
set_option linter.unusedVariables false

theorem Since.of_tchF {fp : List Nat} {lo : Nat} {w w' : World} (k : TchF fp w w') (h : ∀ i ∈ fp, i < lo) : Since lo w w' := ⟨k.size, fun i h1 h2 => k.block i h2 (fun hm => by have := h i hm; omega)⟩
theorem RdA.less {D : Type} {K : Kind D} {lo lo' : Nat} {w : World} {v : Value} {d : D} (h : RdA K lo w v d) (hl : lo' ≤ lo) : RdA K lo' w v d := h.mono hl
theorem RdA.since {D : Type} {K : Kind D} {lo : Nat} {w w2 : World} {v : Value} {d : D} (h : RdA K lo w v d) (k : Since lo w w2) : RdA K lo w2 v d := fun w3 hs hb =>
  h w3 (Nat.le_trans k.1 hs) (fun i h1 h2 => (hb i h1 (Nat.lt_of_lt_of_le h2 k.1)).trans (k.2 i h1 h2))
/-- A judged list in its boxes. -/
structure JG (W0 : World) (g M : Nat) (w : World) (b b2 z0 z1 : Nat) (A1 : Option Addr) (n1 c1 : Nat) (A2 : Option Addr) (n2 c2 : Nat) (r bo k f : Int) (A : Option Addr) (n c : Nat) (Ag : Option Addr) (ng cg : Nat) (Ac : Option Addr) (nc cc : Nat) (d : MD) : Prop where
  cu : Cur w g M
  k1 : Blk w b #[.slice A1 n1 c1, .slice A2 n2 c2, .int .i64 r, .int .i64 bo, .int .i64 k, .int .i64 f] 26
  k2 : Blk w b2 #[.slice Ag ng cg, .slice Ac nc cc] 30
  k3 : Blk w z0 zC 26
  k4 : Blk w z1 #[.slice none 0 0, .slice none 0 0] 30
  gW : g < W0.heap.size
  zg : z0 < g
  zg1 : z1 < g
  gb : g < b
  gb2 : g < b2
  co : CoR W0.heap.size w (.agg #[.slice A1 n1 c1, .slice A2 n2 c2, .int .i64 r, .int .i64 bo, .int .i64 k, .int .i64 f])
  ls : LsR W0.heap.size w A n c
  ma : RdA kM W0.heap.size w (.agg #[.slice Ag ng cg, .slice Ac nc cc]) d
  ok : kM.ok d
  tch : TchF [g] W0 w
section
variable {W0 w w' wx : World} {g M M' b b2 z0 z1 n1 c1 n2 c2 n c ng cg nc cc : Nat} {A1 A2 A Ag Ac : Option Addr} {r bo k f : Int} {d : MD}
theorem JG.ext (h : JG W0 g M w b b2 z0 z1 A1 n1 c1 A2 n2 c2 r bo k f A n c Ag ng cg Ac nc cc d) (x : Ext w w') : JG W0 g M w' b b2 z0 z1 A1 n1 c1 A2 n2 c2 r bo k f A n c Ag ng cg Ac nc cc d :=
  ⟨h.cu.ext x, h.k1.ext x, h.k2.ext x, h.k3.ext x, h.k4.ext x, h.gW, h.zg, h.zg1, h.gb, h.gb2, h.co.since (Since.of_ext x), h.ls.since (Since.of_ext x), h.ma.ext x, h.ok, h.tch.stepX x⟩
theorem JG.step (h : JG W0 g M w b b2 z0 z1 A1 n1 c1 A2 n2 c2 r bo k f A n c Ag ng cg Ac nc cc d) (x : Ext w wx) (y : TchF [g] wx w') (z : Cur w' g M') : JG W0 g M' w' b b2 z0 z1 A1 n1 c1 A2 n2 c2 r bo k f A n c Ag ng cg Ac nc cc d := by
  have q := h.ext x
  have h1 := h.gW; have h2 := h.zg; have h3 := h.zg1; have h4 := h.gb; have h5 := h.gb2
  have sn : Since W0.heap.size wx w' := Since.of_tchF y (by simpa using h1)
  exact ⟨z, q.k1.tchF y (by simp; omega), q.k2.tchF y (by simp; omega), q.k3.tchF y (by simp; omega), q.k4.tchF y (by simp; omega), h1, h2, h3, h4, h5, q.co.since sn, q.ls.since sn, q.ma.since sn, h.ok, q.tch.step y (fun i hi => .inl (by simpa using hi))⟩
theorem JG.out (h : JG W0 g M w b b2 z0 z1 A1 n1 c1 A2 n2 c2 r bo k f A n c Ag ng cg Ac nc cc d) (w0 : World) (hz : w0.heap.size ≤ z0) (hz1 : w0.heap.size ≤ z1) (X : Ext w0 W0) (u0 u1 u2 u3 u4 u5 v0 v1 : Value) :
    CoR w0.heap.size (set2 (set6 w z0 u0 u1 u2 u3 u4 u5) z1 v0 v1) (.agg #[.slice A1 n1 c1, .slice A2 n2 c2, .int .i64 r, .int .i64 bo, .int .i64 k, .int .i64 f]) ∧ LsR w0.heap.size (set2 (set6 w z0 u0 u1 u2 u3 u4 u5) z1 v0 v1) A n c ∧ RdA kM w0.heap.size (set2 (set6 w z0 u0 u1 u2 u3 u4 u5) z1 v0 v1) (.agg #[.slice Ag ng cg, .slice Ac nc cc]) d ∧ Ext w0 (set2 (set6 w z0 u0 u1 u2 u3 u4 u5) z1 v0 v1) := by
  have h1 := h.gW; have h2 := h.zg; have h3 := h.zg1
  have hX := X.size
  have sn : Since W0.heap.size w (set2 (set6 w z0 u0 u1 u2 u3 u4 u5) z1 v0 v1) := ((Since.put6 w (show z0 < W0.heap.size by omega) u0 u1 u2 u3 u4 u5).trans (Since.put _ (show z1 < W0.heap.size by omega) _)).trans (Since.put _ (show z1 < W0.heap.size by omega) _)
  refine ⟨(h.co.since sn).less hX, (h.ls.since sn).less hX, (h.ma.since sn).less hX, ?_⟩
  have e6 := (h.tch.ext0 X (by omega)).tchF (set6_tch w z0 u0 u1 u2 u3 u4 u5) (by simp; omega)
  exact e6.tchF ((TchF.put _ ⟨z1, 0, none⟩ v0 (fp := [z1]) (by simp)).trans (TchF.put _ ⟨z1, 1, none⟩ v1 (fp := [z1]) (by simp))) (by simp; omega)
end
abbrev JLR (w : World) (e : Ending) (w' : World) : Prop := ∃ (A1 : Option Addr) (n1 c1 : Nat) (A2 : Option Addr) (n2 c2 : Nat) (r bo k f : Int) (A : Option Addr) (n c : Nat) (Ag : Option Addr) (ng cg : Nat) (Ac : Option Addr) (nc cc : Nat) (d : MD), e = .returned (.tuple #[.agg #[.slice A1 n1 c1, .slice A2 n2 c2, .int .i64 r, .int .i64 bo, .int .i64 k, .int .i64 f], .slice A n c, .agg #[.slice Ag ng cg, .slice Ac nc cc]]) ∧ n ≤ 15 ∧ CoR w.heap.size w' (.agg #[.slice A1 n1 c1, .slice A2 n2 c2, .int .i64 r, .int .i64 bo, .int .i64 k, .int .i64 f]) ∧ LsR w.heap.size w' A n c ∧ RdA kM w.heap.size w' (.agg #[.slice Ag ng cg, .slice Ac nc cc]) d ∧ kM.ok d ∧ Ext w w'
set_option maxRecDepth 100000 in
set_option maxHeartbeats 4000000 in
theorem s.DrawAreJudged_m (w : World) (a0 : Option Addr) (m0 d0 : Nat) (h : ArgB w a0 m0 d0) : Calls Tryz.prog 34 #[.slice a0 m0 d0] w fun e w' => JLR w e w' := by
  obtain ⟨W0, hW0⟩ : ∃ W0, Hid (W0 = ((w.alloc (.cells zC 26)).alloc (.cells #[.slice none 0 0, .slice none 0 0] 30)).alloc (.cells #[.slice a0 m0 d0, .int .i64 0, .int .u64 0] 66)) := ⟨_, rfl⟩
  obtain ⟨g, hg⟩ : ∃ g, Hid (g = w.heap.size + 1 + 1) := ⟨_, rfl⟩
  obtain ⟨z1, hz1⟩ : ∃ z, Hid (z = w.heap.size + 1) := ⟨_, rfl⟩
  have CU : Hid (Cur W0 g 0) := by
    rw [hW0.out, hg.out]
    have := Cur.new (h.ext ((Ext.alloc w (.cells zC 26)).trans (Ext.alloc _ (.cells #[.slice none 0 0, .slice none 0 0] 30))))
    show Cur _ _ _
    simpa using this
  have X : Hid (Ext w W0) := by rw [hW0.out]; exact ((Ext.alloc w _).trans (Ext.alloc _ _)).trans (Ext.alloc _ _)
  have BX : Hid (Blk W0 w.heap.size zC 26) := by rw [hW0.out]; exact ((Blk.new rfl _ _).alloc _).alloc _
  have BM : Hid (Blk W0 z1 #[.slice none 0 0, .slice none 0 0] 30) := by rw [hW0.out, hz1.out]; exact (Blk.new (by simp) _ _).alloc _
  have gl : w.heap.size < g := by rw [hg.out]; omega
  have zg : z1 < g := by rw [hg.out, hz1.out]; omega
  have zl1 : w.heap.size ≤ z1 := by rw [hz1.out]; omega
  have zne : w.heap.size ≠ z1 := by rw [hz1.out]; omega
  have gW : g < W0.heap.size := CU.out.lt
  clear h
  go_enter Tryz.func34, Tryz.ntmps34
  go_wp2_with fail
  rw [← hW0.out, ← hg.out, ← hz1.out]
  clear hW0 hg hz1
  refine (cu.judgedList_m W0 W0 g 0 _ (DS.init CU.out) (by omega)).mono ?_
  rintro e w1 ⟨A1, n1, c1, A2, n2, c2, r, bo, k, f, A, n, c, Ag, ng, cg, Ac, nc, cc, d, rfl, n15, co, ls, ma, ok, cu, tc⟩
  have BY := hide (BX.out.tchF tc (by simp; omega))
  have BN := hide (BM.out.tchF tc (by simp; omega))
  have Y := hide (tc.ext0 X.out (by omega))
  have HC := hide co
  have HL := hide ls
  have HM := hide ma
  have hX := X.out.size
  have wl := BX.out.lt
  have wl1 := BM.out.lt
  clear co ls ma cu tc CU BX BM X
  have q0 := BY.out.cell
  have f0 := BY.out.free
  have q1 := BN.out.cell
  have f1 := BN.out.free
  have bl := BY.out.lt
  have bl1 := BN.out.lt
  go_wp2
  refine bodyPost_ret (v := .tuple #[.agg #[.slice A1 n1 c1, .slice A2 n2 c2, .int .i64 r, .int .i64 bo, .int .i64 k, .int .i64 f], .slice A n c, .agg #[.slice Ag ng cg, .slice Ac nc cc]]) (by simp [results, Tryz.results34, go_sem, q0, q1]) rfl ?_
  have sn : Since W0.heap.size w1 (set2 (set6 w1 w.heap.size (.slice A1 n1 c1) (.slice A2 n2 c2) (.int .i64 r) (.int .i64 bo) (.int .i64 k) (.int .i64 f)) z1 (.slice Ag ng cg) (.slice Ac nc cc)) := ((Since.put6 w1 wl _ _ _ _ _ _).trans (Since.put _ wl1 _)).trans (Since.put _ wl1 _)
  exact ⟨A1, n1, c1, A2, n2, c2, r, bo, k, f, A, n, c, Ag, ng, cg, Ac, nc, cc, d, rfl, n15, (HC.out.since sn).less hX, (HL.out.since sn).less hX, (HM.out.since sn).less hX, ok, (Y.out.tchF (set6_tch _ _ _ _ _ _ _ _) (by simp)).tchF ((TchF.put _ ⟨z1, 0, none⟩ _ (fp := [z1]) (by simp)).trans (TchF.put _ ⟨z1, 1, none⟩ _ (fp := [z1]) (by simp))) (by simp; omega)⟩
set_option maxRecDepth 100000 in
set_option maxHeartbeats 4000000 in
theorem s.DrawItemScores_m (w : World) (a0 : Option Addr) (m0 d0 : Nat) (h : ArgB w a0 m0 d0) : Calls Tryz.prog 5 #[.slice a0 m0 d0] w fun e w' => JLR w e w' := by
  obtain ⟨W0, hW0⟩ : ∃ W0, Hid (W0 = (w.alloc (.cells zC 26)).alloc (.cells #[.slice none 0 0, .slice none 0 0] 30)) := ⟨_, rfl⟩
  obtain ⟨z1, hz1⟩ : ∃ z, Hid (z = w.heap.size + 1) := ⟨_, rfl⟩
  have X : Hid (Ext w W0) := by rw [hW0.out]; exact (Ext.alloc w _).trans (Ext.alloc _ _)
  have BX : Hid (Blk W0 w.heap.size zC 26) := by rw [hW0.out]; exact (Blk.new rfl _ _).alloc _
  have BM : Hid (Blk W0 z1 #[.slice none 0 0, .slice none 0 0] 30) := by rw [hW0.out, hz1.out]; exact Blk.new (by simp) _ _
  have zl1 : w.heap.size ≤ z1 := by rw [hz1.out]; omega
  have zne : w.heap.size ≠ z1 := by rw [hz1.out]; omega
  have HA := hide (h.ext X.out)
  clear h
  go_enter Tryz.func5, Tryz.ntmps5
  go_wp2_with fail
  rw [← hW0.out, ← hz1.out]
  clear hW0 hz1
  refine (s.DrawAreJudged_m W0 _ _ _ HA.out).mono ?_
  rintro e w1 ⟨A1, n1, c1, A2, n2, c2, r, bo, k, f, A, n, c, Ag, ng, cg, Ac, nc, cc, d, rfl, n15, co, ls, ma, ok, x1⟩
  have BY := hide (BX.out.ext x1)
  have BN := hide (BM.out.ext x1)
  have Y := hide (X.out.trans x1)
  have HC := hide co
  have HL := hide ls
  have HM := hide ma
  have hX := X.out.size
  have wl := BX.out.lt
  have wl1 := BM.out.lt
  clear co ls ma x1 HA BX BM X
  have q0 := BY.out.cell
  have f0 := BY.out.free
  have q1 := BN.out.cell
  have f1 := BN.out.free
  have bl := BY.out.lt
  have bl1 := BN.out.lt
  go_wp2
  refine bodyPost_ret (v := .tuple #[.agg #[.slice A1 n1 c1, .slice A2 n2 c2, .int .i64 r, .int .i64 bo, .int .i64 k, .int .i64 f], .slice A n c, .agg #[.slice Ag ng cg, .slice Ac nc cc]]) (by simp [results, Tryz.results5, go_sem, q0, q1]) rfl ?_
  have sn : Since W0.heap.size w1 (set2 (set6 w1 w.heap.size (.slice A1 n1 c1) (.slice A2 n2 c2) (.int .i64 r) (.int .i64 bo) (.int .i64 k) (.int .i64 f)) z1 (.slice Ag ng cg) (.slice Ac nc cc)) := ((Since.put6 w1 wl _ _ _ _ _ _).trans (Since.put _ wl1 _)).trans (Since.put _ wl1 _)
  exact ⟨A1, n1, c1, A2, n2, c2, r, bo, k, f, A, n, c, Ag, ng, cg, Ac, nc, cc, d, rfl, n15, (HC.out.since sn).less hX, (HL.out.since sn).less hX, (HM.out.since sn).less hX, ok, (Y.out.tchF (set6_tch _ _ _ _ _ _ _ _) (by simp)).tchF ((TchF.put _ ⟨z1, 0, none⟩ _ (fp := [z1]) (by simp)).trans (TchF.put _ ⟨z1, 1, none⟩ _ (fp := [z1]) (by simp))) (by simp; omega)⟩
abbrev JLK (w : World) (e : Ending) (w' : World) : Prop := ∃ (A1 : Option Addr) (n1 c1 : Nat) (A2 : Option Addr) (n2 c2 : Nat) (r bo k f : Int) (A : Option Addr) (n c : Nat) (Ag : Option Addr) (ng cg : Nat) (Ac : Option Addr) (nc cc : Nat) (d : MD) (z : Int), e = .returned (.tuple #[.agg #[.slice A1 n1 c1, .slice A2 n2 c2, .int .i64 r, .int .i64 bo, .int .i64 k, .int .i64 f], .slice A n c, .agg #[.slice Ag ng cg, .slice Ac nc cc], .int .i64 z]) ∧ n ≤ 15 ∧ InR z ∧ CoR w.heap.size w' (.agg #[.slice A1 n1 c1, .slice A2 n2 c2, .int .i64 r, .int .i64 bo, .int .i64 k, .int .i64 f]) ∧ LsR w.heap.size w' A n c ∧ RdA kM w.heap.size w' (.agg #[.slice Ag ng cg, .slice Ac nc cc]) d ∧ kM.ok d ∧ Ext w w'
set_option maxRecDepth 100000 in
set_option maxHeartbeats 20000000 in
theorem s.DrawGradePoints_m (w : World) (a0 : Option Addr) (m0 d0 : Nat) (h : ArgB w a0 m0 d0) : Calls Tryz.prog 14 #[.slice a0 m0 d0] w fun e w' => JLK w e w' := by
  obtain ⟨W0, hW0⟩ : ∃ W0, Hid (W0 = ((w.alloc (.cells zC 26)).alloc (.cells #[.slice none 0 0, .slice none 0 0] 30)).alloc (.cells #[.slice a0 m0 d0, .int .i64 0, .int .u64 0] 66)) := ⟨_, rfl⟩
  obtain ⟨g, hg⟩ : ∃ g, Hid (g = w.heap.size + 1 + 1) := ⟨_, rfl⟩
  obtain ⟨z1, hz1⟩ : ∃ z, Hid (z = w.heap.size + 1) := ⟨_, rfl⟩
  have CU : Hid (Cur W0 g 0) := by
    rw [hW0.out, hg.out]
    have := Cur.new (h.ext ((Ext.alloc w (.cells zC 26)).trans (Ext.alloc _ (.cells #[.slice none 0 0, .slice none 0 0] 30))))
    show Cur _ _ _
    simpa using this
  have X : Hid (Ext w W0) := by rw [hW0.out]; exact ((Ext.alloc w _).trans (Ext.alloc _ _)).trans (Ext.alloc _ _)
  have BX : Hid (Blk W0 w.heap.size zC 26) := by rw [hW0.out]; exact ((Blk.new rfl _ _).alloc _).alloc _
  have BM : Hid (Blk W0 z1 #[.slice none 0 0, .slice none 0 0] 30) := by rw [hW0.out, hz1.out]; exact (Blk.new (by simp) _ _).alloc _
  have gl : w.heap.size < g := by rw [hg.out]; omega
  have zg : z1 < g := by rw [hg.out, hz1.out]; omega
  have zl1 : w.heap.size ≤ z1 := by rw [hz1.out]; omega
  have zne : w.heap.size ≠ z1 := by rw [hz1.out]; omega
  have gW : g < W0.heap.size := CU.out.lt
  clear h
  go_enter Tryz.func14, Tryz.ntmps14
  go_wp2_with fail
  rw [← hW0.out, ← hg.out, ← hz1.out]
  clear hW0 hg hz1
  refine (cu.judgedList_m W0 W0 g 0 _ (DS.init CU.out) (by omega)).mono ?_
  rintro e w1 ⟨A1, n1, c1, A2, n2, c2, r, bo, k, f, A, n, c, Ag, ng, cg, Ac, nc, cc, d, rfl, n15, co, ls, ma, ok, cu, tc⟩
  obtain ⟨w2, hw2⟩ : ∃ w2, Hid (w2 = (w1.alloc (.cells #[.slice A1 n1 c1, .slice A2 n2 c2, .int .i64 r, .int .i64 bo, .int .i64 k, .int .i64 f] 26)).alloc (.cells #[.slice Ag ng cg, .slice Ac nc cc] 30)) := ⟨_, rfl⟩
  obtain ⟨b, hb⟩ : ∃ b, Hid (b = w1.heap.size) := ⟨_, rfl⟩
  obtain ⟨b2, hb2⟩ : ∃ b, Hid (b = w1.heap.size + 1) := ⟨_, rfl⟩
  have SC : Hid (JG W0 g (0 + 12000) w2 b b2 w.heap.size z1 A1 n1 c1 A2 n2 c2 r bo k f A n c Ag ng cg Ac nc cc d) := by
    have x2 : Ext w1 w2 := by rw [hw2.out]; exact (Ext.alloc w1 _).trans (Ext.alloc _ _)
    have hs := tc.size
    have k1 : Blk w2 b #[.slice A1 n1 c1, .slice A2 n2 c2, .int .i64 r, .int .i64 bo, .int .i64 k, .int .i64 f] 26 := by rw [hw2.out, hb.out]; exact (Blk.new rfl _ _).alloc _
    have k2 : Blk w2 b2 #[.slice Ag ng cg, .slice Ac nc cc] 30 := by rw [hw2.out, hb2.out]; exact Blk.new (by simp) _ _
    exact ⟨cu.ext x2, k1, k2, (BX.out.tchF tc (by simp; omega)).ext x2, (BM.out.tchF tc (by simp; omega)).ext x2, gW, gl, zg, by rw [hb.out]; omega, by rw [hb2.out]; omega, co.since (Since.of_ext x2), ls.since (Since.of_ext x2), ma.ext x2, ok, tc.stepX x2⟩
  clear co ls ma cu tc CU BX BM
  go_upto_region 3 with fail
  rw [← hw2.out, ← hb2.out, ← hb.out]
  clear hw2 hb2 hb
  have nz : (n : Int) ≤ 15 := by omega
  have q7 := SC.out.k1.cell
  have q9 := SC.out.k2.cell
  have q0 := SC.out.k3.cell
  have q1 := SC.out.k4.cell
  have bl := SC.out.k1.lt
  have bl2 := SC.out.k2.lt
  have gb := SC.out.gb
  have gb2 := SC.out.gb2
  have u1 : b ≠ w.heap.size := by omega
  have u2 : b2 ≠ w.heap.size := by omega
  have u3 : b ≠ z1 := by omega
  have u4 : b2 ≠ z1 := by omega
  have v1 := Ne.symm u1; have v2 := Ne.symm u2; have v3 := Ne.symm u3; have v4 := Ne.symm u4; have zs := Ne.symm zne
  go_region_law (go_simp; go_at_call 48; refine (cu.pick_m _ g _ _ (SC.out.cu.ext (by first | with_reducible exact Ext.refl _ | with_reducible exact Ext.drew _)) (by omega) (by first | exact inr_wrap _ | (unfold InR; omega))).mono ?_; rintro e w7 ⟨zi, rfl, zi0, zi1, zi2, c7, k7⟩; have SC := hide (SC.out.step (by first | with_reducible exact Ext.refl _ | with_reducible exact Ext.drew _) k7 c7); have q7 := SC.out.k1.cell; have q9 := SC.out.k2.cell; have q0 := SC.out.k3.cell; have f0 := SC.out.k3.free; have q1 := SC.out.k4.cell; have f1 := SC.out.k4.free; have bl := SC.out.k1.lt; have bl2 := SC.out.k2.lt; have bl3 := SC.out.k3.lt; have bl4 := SC.out.k4.lt; clear c7 k7 zi1 zi2)
  all_goals
    go_wp2
    generalize hz : IntKind.i64.wrap (_ - _) = z
    refine bodyPost_ret (v := .tuple #[.agg #[.slice A1 n1 c1, .slice A2 n2 c2, .int .i64 r, .int .i64 bo, .int .i64 k, .int .i64 f], .slice A n c, .agg #[.slice Ag ng cg, .slice Ac nc cc], .int .i64 z]) (by simp [results, Tryz.results14, go_sem, q0, q1]) rfl ?_
    have ho := SC.out.out w (Nat.le_refl _) zl1 X.out (.slice A1 n1 c1) (.slice A2 n2 c2) (.int .i64 r) (.int .i64 bo) (.int .i64 k) (.int .i64 f) (.slice Ag ng cg) (.slice Ac nc cc)
    exact ⟨A1, n1, c1, A2, n2, c2, r, bo, k, f, A, n, c, Ag, ng, cg, Ac, nc, cc, d, z, rfl, n15, hz ▸ inr_wrap _, ho.1, ho.2.1, ho.2.2.1, ok, ho.2.2.2⟩
end Go.Proofs.YtaoeomgehpdedaaGreat
