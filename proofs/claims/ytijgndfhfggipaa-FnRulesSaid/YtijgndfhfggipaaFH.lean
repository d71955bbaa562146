/- Draws for the laws on rules. -/
import Derived.Test.YtijgndfhfggipaaGU
namespace Go.Proofs.Ytijgndfhfggipaa
open Go.RowKit Go.Sort
set_option linter.unusedVariables false

abbrev RHPost (w : World) (e : Ending) (w' : World) : Prop := ∃ (A1 : Option Addr) (n1 c1 : Nat) (A2 : Option Addr) (n2 c2 : Nat) (r bo k f : Int) (A : Option Addr) (n c : Nat) (z : Int), e = .returned (.tuple #[.agg #[.slice A1 n1 c1, .slice A2 n2 c2, .int .i64 r, .int .i64 bo, .int .i64 k, .int .i64 f], .slice A n c, .int .i64 z]) ∧ InR z ∧
  CoR w.heap.size w' (.agg #[.slice A1 n1 c1, .slice A2 n2 c2, .int .i64 r, .int .i64 bo, .int .i64 k, .int .i64 f]) ∧ LsR w.heap.size w' A n c ∧ Ext w w'
set_option maxRecDepth 100000 in
set_option maxHeartbeats 8000000 in
theorem s.DrawRuleHolds_m (w : World) (A : Option Addr) (n c : Nat) (h : ArgB w A n c) : Calls Try.prog 13 #[.slice A n c] w fun e w' => RHPost w e w' := by
  obtain ⟨W0, hW0⟩ : ∃ W0, Hid (W0 = (w.alloc (.cells zC 26)).alloc (.cells #[.slice A n c, .int .i64 0, .int .u64 0] 54)) := ⟨_, rfl⟩
  obtain ⟨g, hg⟩ : ∃ g, Hid (g = w.heap.size + 1) := ⟨_, rfl⟩
  have CU : Hid (Cur W0 g 0) := by
    rw [hW0.out, hg.out]
    have := Cur.new (h.ext (Ext.alloc w (.cells zC 26)))
    show Cur _ _ _
    simpa using this
  have X : Hid (Ext w W0) := by rw [hW0.out]; exact (Ext.alloc w _).trans (Ext.alloc _ _)
  have BX : Hid (Blk W0 w.heap.size zC 26) := by rw [hW0.out]; exact (Blk.new rfl _ _).alloc _
  have gl : w.heap.size < g := by rw [hg.out]; omega
  have wl := BX.out.lt
  clear h
  go_enter Try.func13, Try.ntmps13
  go_wp2_with fail
  rw [← hW0.out, ← hg.out]
  clear hW0 hg
  refine (cu.anyProgramme_m W0 W0 g 0 _ (DS.init CU.out) (by omega)).mono ?_
  rintro e w1 ⟨T1, A1, n1, c1, A2, n2, c2, r, bo, k, f, A3, n3, c3, p, rfl, m1, m2, m3, d1, s1, s2, s3⟩
  obtain ⟨b, hb⟩ : ∃ b, Hid (w1.heap.size = b) := ⟨_, rfl⟩
  have R := hide (RgU.mk (d1.ext (Ext.alloc w1 (.cells #[.slice A1 n1 c1, .slice A2 n2 c2, .int .i64 r, .int .i64 bo, .int .i64 k, .int .i64 f] 26))) (Bx.newAt d1.ds hb.out #[.slice A1 n1 c1, .slice A2 n2 c2, .int .i64 r, .int .i64 bo, .int .i64 k, .int .i64 f] 26) ((BX.out.tchF d1.ds.tch (by simp; omega)).ext (Ext.alloc w1 (.cells #[.slice A1 n1 c1, .slice A2 n2 c2, .int .i64 r, .int .i64 bo, .int .i64 k, .int .i64 f] 26))) gl s1 s2 s3)
  clear d1 s1 s2 s3 BX CU
  go_upto_region 3 with fail
  rw [hb.out]
  clear hb
  generalize w1.alloc (.cells #[.slice A1 n1 c1, .slice A2 n2 c2, .int .i64 r, .int .i64 bo, .int .i64 k, .int .i64 f] 26) = w2 at *
  have SC := hide R.out
  have q5 := SC.out.bb.cell
  have bl := SC.out.bb.lt
  go_wp2_with fail
  go_region_law (go_simp; go_at_call 37; refine (cu.pick_m _ g _ _ (SC.out.df.ds.cu.ext (by first | with_reducible exact Ext.refl _ | with_reducible exact Ext.drew _)) (by omega) (by first | exact inr_wrap _ | (unfold InR; omega))).mono ?_; rintro e w7 ⟨zi, rfl, -, -, -, c7, k7⟩; have SC := hide (SC.out.step (by first | with_reducible exact Ext.refl _ | with_reducible exact Ext.drew _) k7 c7); have q5 := SC.out.bb.cell; have q0 := SC.out.bz.cell; have f0 := SC.out.bz.free; have bl := SC.out.bb.lt; have bl0 := SC.out.bz.lt; clear c7 k7)
  all_goals
    go_wp2
    generalize hz : IntKind.i64.wrap (_ - IntKind.i64.wrap _) = z
    refine bodyPost_ret (v := .tuple #[.agg #[.slice A1 n1 c1, .slice A2 n2 c2, .int .i64 r, .int .i64 bo, .int .i64 k, .int .i64 f], .slice A3 n3 c3, .int .i64 z]) (by simp [results, Try.results13, go_sem, q0]) rfl ?_
    have ho := SC.out.out w rfl X.out (.slice A1 n1 c1) (.slice A2 n2 c2) (.int .i64 r) (.int .i64 bo) (.int .i64 k) (.int .i64 f)
    exact ⟨A1, n1, c1, A2, n2, c2, r, bo, k, f, A3, n3, c3, z, rfl, hz ▸ inr_wrap _, ho.1, ho.2.1, ho.2.2⟩
/-- An item that stays readable. -/
def ItR (lo : Nat) (w : World) (v : Value) : Prop := ∃ x : ItD, kIm.ok x ∧ ∀ w2, Since lo w w2 → kIm.rd w2 v x
theorem ItR.since {lo : Nat} {w w2 : World} {v : Value} (h : ItR lo w v) (k : Since lo w w2) : ItR lo w2 v := by
  obtain ⟨x, h1, h2⟩ := h
  exact ⟨x, h1, fun w3 k3 => h2 w3 (k.trans k3)⟩
theorem ItR.less {lo lo' : Nat} {w : World} {v : Value} (h : ItR lo w v) (hl : lo' ≤ lo) : ItR lo' w v := by
  obtain ⟨x, h1, h2⟩ := h
  exact ⟨x, h1, fun w2 k => h2 w2 (k.less hl)⟩
theorem TS.itemR {lo : Nat} {T : Typ} {w : World} {A1 A2 : Option Addr} {n1 c1 n2 c2 : Nat} (h : TS lo 64 T w) (s1 : ST T [.str] 9 A1 n1 c1) (s2 : ST T [.int] 3 A2 n2 c2) (q : Bool) :
    ItR lo w (.agg #[.slice A1 n1 c1, .slice A2 n2 c2, .bool q]) := by
  obtain ⟨xs, h1, h3, h5⟩ := LR.of_ST rfl (exp_str 64) h s1
  obtain ⟨zs, h2, h4, _⟩ := LR.of_ST rfl (exp_int 64) h s2
  have l1 := (h.len s1).1
  have l2 := (h.len s2).1
  have hp : pIt 0 64 (xs, zs, q) := ⟨⟨Nat.zero_le _, by show xs.length ≤ 64; omega, h5⟩, ⟨Nat.zero_le _, by show zs.length ≤ 64; omega, fun _ _ => trivial⟩, trivial⟩
  refine ⟨(xs, zs, q), ?_, fun w2 k2 => ?_⟩
  · have := hp.wt
    show kdItem.wt _ ≤ 1048576
    omega
  · refine ⟨[.slice A1 xs.length c1, .slice A2 zs.length c2, .bool q], by rw [h3, h4]; rfl, kdItem.mk_ (d := (xs, zs, q)) (LR.since flatS h s1 (Nat.le_of_eq h3) h1 k2) (LR.since flatI h s2 (Nat.le_of_eq h4) h2 k2)⟩
abbrev set3 (w : World) (x : Nat) (u0 u1 u2 : Value) : World := ((w.setCell ⟨x, 0, none⟩ u0).setCell ⟨x, 1, none⟩ u1).setCell ⟨x, 2, none⟩ u2
abbrev FOPost (w : World) (e : Ending) (w' : World) : Prop := ∃ (A1 : Option Addr) (n1 c1 : Nat) (A2 : Option Addr) (n2 c2 : Nat) (r bo k f : Int) (B1 : Option Addr) (k1 d1 : Nat) (B2 : Option Addr) (k2 d2 : Nat) (q : Bool), e = .returned (.tuple #[.agg #[.slice A1 n1 c1, .slice A2 n2 c2, .int .i64 r, .int .i64 bo, .int .i64 k, .int .i64 f], .agg #[.slice B1 k1 d1, .slice B2 k2 d2, .bool q]]) ∧
  CoR w.heap.size w' (.agg #[.slice A1 n1 c1, .slice A2 n2 c2, .int .i64 r, .int .i64 bo, .int .i64 k, .int .i64 f]) ∧ ItR w.heap.size w' (.agg #[.slice B1 k1 d1, .slice B2 k2 d2, .bool q]) ∧ Ext w w'
theorem RgU.blk {W0 w w' : World} {g M b z0 n1 c1 n2 c2 n c p z : Nat} {T T' : Typ} {A1 A2 A : Option Addr} {r bo k f : Int} {cs : Array Value} {t : TypeId} (h : RgU W0 g M T w b z0 A1 n1 c1 A2 n2 c2 r bo k f A n c p) (x : Blk w z cs t) (hz : z < g) (s : Stp g T w T' w') : Blk w' z cs t :=
  x.kt s.kt (by omega) (h.df.ds.ts.none_lo (by have := h.df.ds.hg; omega))
theorem RgU.out3 {W0 w : World} {g M b z0 n1 c1 n2 c2 n c p z : Nat} {T : Typ} {A1 A2 A : Option Addr} {r bo k f : Int} (h : RgU W0 g M T w b z0 A1 n1 c1 A2 n2 c2 r bo k f A n c p) (w0 : World) (hz : w0.heap.size ≤ z) (hzg : z < g) (h0 : z0 = w0.heap.size) (X : Ext w0 W0) {B1 B2 : Option Addr} {k1 d1 k2 d2 : Nat} {q : Bool} (s1 : ST T [.str] 9 B1 k1 d1) (s2 : ST T [.int] 3 B2 k2 d2) (u0 u1 u2 u3 u4 u5 v0 v1 v2 : Value) :
    CoR w0.heap.size (set3 (set6 w z0 u0 u1 u2 u3 u4 u5) z v0 v1 v2) (.agg #[.slice A1 n1 c1, .slice A2 n2 c2, .int .i64 r, .int .i64 bo, .int .i64 k, .int .i64 f]) ∧ ItR w0.heap.size (set3 (set6 w z0 u0 u1 u2 u3 u4 u5) z v0 v1 v2) (.agg #[.slice B1 k1 d1, .slice B2 k2 d2, .bool q]) ∧ Ext w0 (set3 (set6 w z0 u0 u1 u2 u3 u4 u5) z v0 v1 v2) := by
  have hg := h.df.ds.hg
  have zl := h.zl
  have hX := X.size
  have sn := Since.put6 (lo := W0.heap.size) w (show z0 < W0.heap.size by omega) u0 u1 u2 u3 u4 u5
  have s3 : Since W0.heap.size (set6 w z0 u0 u1 u2 u3 u4 u5) (set3 (set6 w z0 u0 u1 u2 u3 u4 u5) z v0 v1 v2) := ((Since.put _ (show z < W0.heap.size by omega) _).trans (Since.put _ (show z < W0.heap.size by omega) _)).trans (Since.put _ (show z < W0.heap.size by omega) _)
  refine ⟨((h.df.ds.ts.code h.s1 h.s2 r bo k f).since (sn.trans s3)).less hX, ((h.df.ds.ts.itemR s1 s2 q).since (sn.trans s3)).less hX, ?_⟩
  have e6 := (h.df.ds.tch.ext0 X (by omega)).tchF (set6_tch w z0 u0 u1 u2 u3 u4 u5) (by simp; omega)
  exact e6.tchF ((TchF.put _ ⟨z, 0, none⟩ v0 (fp := [z]) (by simp)).trans ((TchF.put _ ⟨z, 1, none⟩ v1 (fp := [z]) (by simp)).trans (TchF.put _ ⟨z, 2, none⟩ v2 (fp := [z]) (by simp)))) (by simp; omega)
set_option maxRecDepth 100000 in
set_option maxHeartbeats 8000000 in
theorem s.DrawFamilyOf_m (w : World) (A : Option Addr) (n c : Nat) (h : ArgB w A n c) : Calls Try.prog 16 #[.slice A n c] w fun e w' => FOPost w e w' := by
  obtain ⟨W0, hW0⟩ : ∃ W0, Hid (W0 = ((w.alloc (.cells zC 26)).alloc (.cells #[.slice none 0 0, .slice none 0 0, .bool false] 39)).alloc (.cells #[.slice A n c, .int .i64 0, .int .u64 0] 54)) := ⟨_, rfl⟩
  obtain ⟨g, hg⟩ : ∃ g, Hid (g = w.heap.size + 1 + 1) := ⟨_, rfl⟩
  have CU : Hid (Cur W0 g 0) := by
    rw [hW0.out, hg.out]
    have := Cur.new (h.ext ((Ext.alloc w (.cells zC 26)).trans (Ext.alloc _ (.cells #[.slice none 0 0, .slice none 0 0, .bool false] 39))))
    show Cur _ _ _
    simpa using this
  have X : Hid (Ext w W0) := by rw [hW0.out]; exact ((Ext.alloc w _).trans (Ext.alloc _ _)).trans (Ext.alloc _ _)
  have BX : Hid (Blk W0 w.heap.size zC 26) := by rw [hW0.out]; exact ((Blk.new rfl _ _).alloc _).alloc _
  obtain ⟨z1, hz1⟩ : ∃ z, Hid (z = w.heap.size + 1) := ⟨_, rfl⟩
  have BI : Hid (Blk W0 z1 #[.slice none 0 0, .slice none 0 0, .bool false] 39) := by rw [hW0.out, hz1.out]; exact (Blk.new (by simp) _ _).alloc _
  have gl : w.heap.size < g := by rw [hg.out]; omega
  have zg : z1 < g := by rw [hg.out, hz1.out]; omega
  have zl1 : w.heap.size ≤ z1 := by rw [hz1.out]; omega
  have zne : w.heap.size ≠ z1 := by rw [hz1.out]; omega
  have wl := BX.out.lt
  clear h
  go_enter Try.func16, Try.ntmps16
  go_wp2_with fail
  rw [← hW0.out, ← hg.out]
  clear hW0
  refine (cu.anyProgramme_m W0 W0 g 0 _ (DS.init CU.out) (by omega)).mono ?_
  rintro e w1 ⟨T1, A1, n1, c1, A2, n2, c2, r, bo, k, f, A3, n3, c3, p, rfl, m1, m2, m3, d1, s1, s2, s3⟩
  obtain ⟨b, hb⟩ : ∃ b, Hid (w1.heap.size = b) := ⟨_, rfl⟩
  have BJ := hide ((BI.out.tchF d1.ds.tch (by simp; omega)).ext (Ext.alloc w1 (.cells #[.slice A1 n1 c1, .slice A2 n2 c2, .int .i64 r, .int .i64 bo, .int .i64 k, .int .i64 f] 26)))
  have R := hide (RgU.mk (d1.ext (Ext.alloc w1 (.cells #[.slice A1 n1 c1, .slice A2 n2 c2, .int .i64 r, .int .i64 bo, .int .i64 k, .int .i64 f] 26))) (Bx.newAt d1.ds hb.out #[.slice A1 n1 c1, .slice A2 n2 c2, .int .i64 r, .int .i64 bo, .int .i64 k, .int .i64 f] 26) ((BX.out.tchF d1.ds.tch (by simp; omega)).ext (Ext.alloc w1 (.cells #[.slice A1 n1 c1, .slice A2 n2 c2, .int .i64 r, .int .i64 bo, .int .i64 k, .int .i64 f] 26))) gl s1 s2 s3)
  clear d1 s1 s2 s3 BX CU BI
  go_upto_region 3 with fail
  rw [hb.out, ← hz1.out]
  clear hb hz1 hg
  generalize w1.alloc (.cells #[.slice A1 n1 c1, .slice A2 n2 c2, .int .i64 r, .int .i64 bo, .int .i64 k, .int .i64 f] 26) = w2 at *
  have n15 : (n3 : Int) ≤ 15 := by omega
  go_cut [21] (fun s21 wx => ∃ B, s21 = .bool B ∧ (B = false → 0 < n3) ∧ RgU W0 g (0 + 2400 + 2) T1 wx b w.heap.size A1 n1 c1 A2 n2 c2 r bo k f A3 n3 c3 p ∧ Blk wx z1 #[.slice none 0 0, .slice none 0 0, .bool false] 39)
  case first =>
    by_cases h0 : n3 = 0
    · subst h0
      go_wp2
      go_meet
      exact ⟨true, rfl, by simp, R.out.more (by omega), BJ.out⟩
    · have hz : ((n3 : Int) == 0) = false := by simp; omega
      go_wp2_with fail
      refine (cu.one_m _ g _ 6 R.out.df.ds.cu (by omega) (by unfold InR; omega)).mono ?_
      rintro e wa ⟨q, rfl, ca, ka⟩
      go_wp2
      go_meet
      exact ⟨q, rfl, fun _ => by omega, R.out.step (Ext.refl _) ka ca, BJ.out.tchF ka (by simp; omega)⟩
  case rest =>
    obtain ⟨B, rfl, hB, st, bj⟩ := hcut
    clear R BJ
    have SC := hide st
    have BJ := hide bj
    clear st bj
    have q5 := SC.out.bb.cell
    have bl := SC.out.bb.lt
    cases B
    · have h0 := hB rfl
      clear hB
      skip
      obtain ⟨xr, mr, hA, -⟩ := SC.out.l.pos h0
      subst hA
      have hc := hide (SC.out.df.ds.ts.len SC.out.l)
      have hc1 := hc.out.2.1
      have hc2 := hc.out.2.2
      unfold maxLen at hc2
      clear hc
      go_wp2_with fail
      go_region_law (go_simp; go_at_call 37; refine (cu.pick_m _ g _ n3 (SC.out.df.ds.cu.ext (by first | with_reducible exact Ext.refl _ | with_reducible exact Ext.drew _)) (by omega) (by unfold InR; omega)).mono ?_; rintro e w7 ⟨ri, rfl, ri0, ri1, -, c7, k7⟩; obtain ⟨i, rfl⟩ : ∃ i : Nat, ri = i := ⟨ri.toNat, by omega⟩; have hi : (i : Int) < n3 := ri1 (by omega); have BK := hide ((BJ.out.ext (by first | with_reducible exact Ext.refl _ | with_reducible exact Ext.drew _)).tchF k7 (by simp; omega)); have SD := hide (SC.out.step (by first | with_reducible exact Ext.refl _ | with_reducible exact Ext.drew _) k7 c7); obtain ⟨xx, B1, k1, d1, B2, k2, d2, late, ex, -, -, t1, t2, hTx, -, e0, e1, e2⟩ := SD.out.df.ds.it3 SD.out.l (show i < n3 by omega); obtain rfl : xx = xr := (congrArg Addr.block (Option.some.inj ex)).symm; have nx0 : xx ≠ w.heap.size := (by have := (SD.out.df.ds.lo hTx).1; omega); have nx1 : w.heap.size ≠ xx := Ne.symm nx0; have nx2 : xx ≠ z1 := (by have := (SD.out.df.ds.lo hTx).1; have := SD.out.df.ds.hg; omega); clear hTx; have S1 := hide t1; have S2 := hide t2; have r5 := SD.out.bb.cell; have q0 := SD.out.bz.cell; have f0 := SD.out.bz.free; have q1 := BK.out.cell; have f1 := BK.out.free; have bl := SD.out.bb.lt; have bl0 := SD.out.bz.lt; have bl1 := BK.out.lt; clear c7 k7 t1 t2 ri1)
      all_goals
        go_wp2
        refine bodyPost_ret (v := .tuple #[.agg #[.slice A1 n1 c1, .slice A2 n2 c2, .int .i64 r, .int .i64 bo, .int .i64 k, .int .i64 f], .agg #[.slice B1 k1 d1, .slice B2 k2 d2, .bool late]]) (by simp [results, Try.results16, go_sem, q0, q1]) rfl ?_
        have ho := SD.out.out3 w zl1 zg rfl X.out S1.out S2.out (q := late) (.slice A1 n1 c1) (.slice A2 n2 c2) (.int .i64 r) (.int .i64 bo) (.int .i64 k) (.int .i64 f) (.slice B1 k1 d1) (.slice B2 k2 d2) (.bool late)
        exact ⟨A1, n1, c1, A2, n2, c2, r, bo, k, f, B1, k1, d1, B2, k2, d2, late, rfl, ho.1, ho.2.1, ho.2.2⟩
    · skip
      go_wp2_with fail
      go_region_law (go_simp; go_at_call 42; refine (cu.anyItem_m W0 _ g _ T1 (SC.out.df.ds.ext (by first | with_reducible exact Ext.refl _ | with_reducible exact Ext.drew _)) (by omega)).mono ?_; rintro e w7 ⟨T3, B1, k1, d1, B2, k2, d2, late, rfl, -, -, f3, t1, t2⟩; have BK := hide ((SC.out.ext (by first | with_reducible exact Ext.refl _ | with_reducible exact Ext.drew _)).blk (BJ.out.ext (by first | with_reducible exact Ext.refl _ | with_reducible exact Ext.drew _)) zg f3.sp); have SD := hide ((SC.out.ext (by first | with_reducible exact Ext.refl _ | with_reducible exact Ext.drew _)).stp f3.sp f3.ds); have S1 := hide t1; have S2 := hide t2; have r5 := SD.out.bb.cell; have q0 := SD.out.bz.cell; have f0 := SD.out.bz.free; have q1 := BK.out.cell; have f1 := BK.out.free; have bl := SD.out.bb.lt; have bl0 := SD.out.bz.lt; have bl1 := BK.out.lt; clear f3 t1 t2)
      all_goals
        go_wp2
        refine bodyPost_ret (v := .tuple #[.agg #[.slice A1 n1 c1, .slice A2 n2 c2, .int .i64 r, .int .i64 bo, .int .i64 k, .int .i64 f], .agg #[.slice B1 k1 d1, .slice B2 k2 d2, .bool late]]) (by simp [results, Try.results16, go_sem, q0, q1]) rfl ?_
        have ho := SD.out.out3 w zl1 zg rfl X.out S1.out S2.out (q := late) (.slice A1 n1 c1) (.slice A2 n2 c2) (.int .i64 r) (.int .i64 bo) (.int .i64 k) (.int .i64 f) (.slice B1 k1 d1) (.slice B2 k2 d2) (.bool late)
        exact ⟨A1, n1, c1, A2, n2, c2, r, bo, k, f, B1, k1, d1, B2, k2, d2, late, rfl, ho.1, ho.2.1, ho.2.2⟩
end Go.Proofs.Ytijgndfhfggipaa
