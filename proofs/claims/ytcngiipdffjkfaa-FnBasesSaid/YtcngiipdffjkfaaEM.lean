/- Draws for the laws on bases: a code and a list that mostly fit. -/
import Derived.Test.YtcngiipdffjkfaaEL
import Derived.Test.YtcngiipdffjkfaaDG
namespace Go.Proofs.Ytcngiipdffjkfaa
open Go.RowKit Go.Sort
set_option linter.unusedVariables false

theorem ItRow.keep {lo : Nat} {T : Typ} {w w' : World} {A : Option Addr} {n c : Nat} (r : ItRow lo T w A n c) (hs : w.heap.size ≤ w'.heap.size) (k : ∀ x, A = some ⟨x, 0, none⟩ → w'.heap[x]? = w.heap[x]?) : ItRow lo T w' A n c := by
  refine ⟨r.1, r.2.1, r.2.2.1, fun hn => ?_⟩
  obtain ⟨x, rfl, h1, h2, h3⟩ := r.2.2.2 hn
  refine ⟨x, rfl, h1, by omega, fun i hi => ?_⟩
  obtain ⟨A1, n1, c1, A2, n2, c2, q, g1, g2, g3, s1, s2⟩ := h3 i hi
  have e : ∀ o, w'.cell? ⟨x, o, none⟩ = w.cell? ⟨x, o, none⟩ := fun o => World.cell?_of_block (k x rfl)
  exact ⟨A1, n1, c1, A2, n2, c2, q, by rw [e, g1], by rw [e, g2], by rw [e, g3], s1, s2⟩
/-- Six cells of one block stored. -/
abbrev set6 (w : World) (x : Nat) (u0 u1 u2 u3 u4 u5 : Value) : World := (((((w.setCell ⟨x, 0, none⟩ u0).setCell ⟨x, 1, none⟩ u1).setCell ⟨x, 2, none⟩ u2).setCell ⟨x, 3, none⟩ u3).setCell ⟨x, 4, none⟩ u4).setCell ⟨x, 5, none⟩ u5
theorem set6_tch (w : World) (x : Nat) (u0 u1 u2 u3 u4 u5 : Value) : TchF [x] w (set6 w x u0 u1 u2 u3 u4 u5) :=
  (((((TchF.put _ _ _ (by simp)).trans (TchF.put _ _ _ (by simp))).trans (TchF.put _ _ _ (by simp))).trans (TchF.put _ _ _ (by simp))).trans (TchF.put _ _ _ (by simp))).trans (TchF.put _ _ _ (by simp))
/-- What judged hands back. -/
abbrev JdPost (w0 : World) (g : Nat) (e : Ending) (w' : World) : Prop := ∃ (A1 : Option Addr) (n1 c1 : Nat) (A2 : Option Addr) (n2 c2 : Nat) (r bo k f : Int) (A : Option Addr) (n c : Nat), e = .returned (.tuple #[.agg #[.slice A1 n1 c1, .slice A2 n2 c2, .int .i64 r, .int .i64 bo, .int .i64 k, .int .i64 f], .slice A n c]) ∧
  CoR w0.heap.size w' (.agg #[.slice A1 n1 c1, .slice A2 n2 c2, .int .i64 r, .int .i64 bo, .int .i64 k, .int .i64 f]) ∧ LsR w0.heap.size w' A n c ∧ TchF [g] w0 w'
theorem jd_typed {w0 ws w : World} {g M x p : Nat} {Ts T : Typ} {cs : Array Value} {t : TypeId} {A1 A2 A : Option Addr} {n1 c1 n2 c2 n c : Nat} {r bo k f : Int} (h : DF w0 ws g 64 M Ts T w) (hb : Bx g T w x cs t) (hx : ws.heap.size ≤ x) (s1 : ST T ksEl 65 A1 n1 c1) (s2 : ST T [.int] 3 A2 n2 c2) (s : ST T (ksIt p) 43 A n c) (u0 u1 u2 u3 u4 u5 : Value) :
    JdPost w0 g (.returned (.tuple #[.agg #[.slice A1 n1 c1, .slice A2 n2 c2, .int .i64 r, .int .i64 bo, .int .i64 k, .int .i64 f], .slice A n c])) (set6 w x u0 u1 u2 u3 u4 u5) := by
  have d := h.put6 hb hx u0 u1 u2 u3 u4 u5
  exact ⟨A1, n1, c1, A2, n2, c2, r, bo, k, f, A, n, c, rfl, d.ds.ts.code s1 s2 r bo k f, (d.ds.ts.row_it s).ls d.ds.ts, d.ds.tch⟩
theorem jd_put {w0 ws w : World} {g M x p i : Nat} {Ts T : Typ} {cs : Array Value} {t : TypeId} {A1 A2 B1 B2 : Option Addr} {n1 c1 n2 c2 n c m1 d1 m2 d2 xr : Nat} {q : Bool} {r bo k f : Int} (h : DF w0 ws g 64 M Ts T w) (hb : Bx g T w x cs t) (hx : ws.heap.size ≤ x) (s1 : ST T ksEl 65 A1 n1 c1) (s2 : ST T [.int] 3 A2 n2 c2) (s : ST T (ksIt p) 43 (some ⟨xr, 0, none⟩) n c) (hi : i < n) (t1 : ST T [.str] 9 B1 m1 d1) (t2 : ST T [.int] 3 B2 m2 d2) (u0 u1 u2 u3 u4 u5 : Value) :
    JdPost w0 g (.returned (.tuple #[.agg #[.slice A1 n1 c1, .slice A2 n2 c2, .int .i64 r, .int .i64 bo, .int .i64 k, .int .i64 f], .slice (some ⟨xr, 0, none⟩) n c])) (set6 (((w.setCell ⟨xr, i * 3, none⟩ (.slice B1 m1 d1)).setCell ⟨xr, i * 3 + 1, none⟩ (.slice B2 m2 d2)).setCell ⟨xr, i * 3 + 2, none⟩ (.bool q)) x u0 u1 u2 u3 u4 u5) := by
  obtain ⟨h1, h2⟩ := h.ds.ts.put_it (q := q) s hi t1 t2
  have k6 := set6_tch (((w.setCell ⟨xr, i * 3, none⟩ (.slice B1 m1 d1)).setCell ⟨xr, i * 3 + 1, none⟩ (.slice B2 m2 d2)).setCell ⟨xr, i * 3 + 2, none⟩ (.bool q)) x u0 u1 u2 u3 u4 u5
  have kx : TchF [xr] w (((w.setCell ⟨xr, i * 3, none⟩ (.slice B1 m1 d1)).setCell ⟨xr, i * 3 + 1, none⟩ (.slice B2 m2 d2)).setCell ⟨xr, i * 3 + 2, none⟩ (.bool q)) :=
    ((TchF.put _ _ _ (by simp)).trans (TchF.put _ _ _ (by simp))).trans (TchF.put _ _ _ (by simp))
  obtain ⟨y, m, ey, hT, hm⟩ := s.pos (by omega)
  obtain rfl : xr = y := congrArg Addr.block (Option.some.inj ey)
  have hxr := h.ds.lo (b := xr) (by rw [hT]; simp)
  have ne : xr ≠ x := fun e => by rw [e, hb.hT] at hT; cases hT
  have pz : T.plain x = none := by
    unfold Typ.plain
    rw [hb.hT]
  have h3 := h1.tchF k6 (fun j hj => by simp at hj; subst hj; exact pz)
  have h4 := h2.keep k6.size (fun y ey => by
    obtain rfl : xr = y := congrArg Addr.block (Option.some.inj ey)
    exact k6.block xr (Nat.lt_of_lt_of_le hxr.2.1 kx.size) (by simpa using ne))
  have hs := h.hs
  exact ⟨A1, n1, c1, A2, n2, c2, r, bo, k, f, _, n, c, rfl, h3.code (s1.plain rfl) (s2.plain rfl) r bo k f, h4.ls h3, (h.ds.tch.step kx (fun j hj => by simp at hj; exact .inr (by omega))).step k6 (fun j hj => by simp at hj; exact .inr (by omega))⟩

set_option maxRecDepth 100000 in
set_option maxHeartbeats 8000000 in
theorem cu.judged_m (w0 w : World) (g M : Nat) (T : Typ) (h : DS w0 g 64 M T w) (hM : M ≤ 4611686018390000000) :
    Calls Try.prog 55 #[.pointer (some ⟨g, 0, none⟩)] w fun e w' => JdPost w0 g e w' := by
  have hg := h.cg
  have D0 := hide ((DF.start h).ext (Ext.alloc w (.cells zC 27)))
  have B0 := hide (Bx.new h zC 27)
  clear h
  go_enter Try.func55, Try.ntmps55
  go_wp2_with fail
  refine (cu.pointsT w0 _ g M T D0.out.ds (by omega)).mono ?_
  rintro e w1 ⟨T1, A1, n1, c1, A2, c2, rp, q2, q3, q4, rfl, m1, m2, f1, t1, t2⟩
  have D1 := hide (D0.out.call f1)
  have B1 := hide (B0.out.stp f1.sp)
  obtain ⟨b, hb⟩ : ∃ b, Hid (w1.heap.size = b) := ⟨_, rfl⟩
  have U := hide (CoU.mk (D1.out.ext (Ext.alloc w1 (.cells #[.slice A1 n1 c1, .slice A2 5 c2, .int .i64 rp, .int .i64 q2, .int .i64 q3, .int .i64 q4] 27))) (B1.out.ext (Ext.alloc _ _)) (Bx.newAt D1.out.ds hb.out _ _) t1 t2 (by have := B1.out.lt; have := hb.out; omega))
  clear f1 t1 t2 D1 B1 D0 B0
  go_upto_region 2 with fail
  rw [hb.out]
  clear hb
  generalize w1.alloc (.cells #[.slice A1 n1 c1, .slice A2 5 c2, .int .i64 rp, .int .i64 q2, .int .i64 q3, .int .i64 q4] 27) = w2 at *
  have cA := U.out.bb.cell
  go_wp2_with fail
  refine (cu.items_m w0 w2 g _ T1 A1 n1 c1 A2 5 c2 rp q2 q3 q4 U.out.df.ds (by omega) U.out.s1 m1 (by omega)).mono ?_
  rintro e w3 ⟨T2, A, n, c, rfl, hn, f2, s2⟩
  have V1 := hide (U.out.stp f2.sp f2.ds)
  have L1 := hide s2
  clear f2 s2 U cA
  go_wp2_with fail
  refine (cu.pick_m _ g _ 24 V1.out.df.ds.cu (by omega) (by unfold InR; omega)).mono ?_
  rintro e w4 ⟨q, rfl, -, -, -, ca, ka⟩
  have V := hide (V1.out.curs ka ca)
  clear ca ka V1
  have hc := V.out.df.ds.ts.len L1.out
  have hc1 := hc.2.1
  have hc2 := hc.2.2
  unfold maxLen at hc2
  clear hc
  have bw : w.heap.size < b := V.out.hb
  by_cases h0 : q = 0
  · subst h0
    skip
    go_wp2_with fail
    refine (cu.anyCodeT w0 w4 g _ T2 V.out.df.ds (by omega)).mono ?_
    rintro e w5 ⟨T3, A3, n3, c3, A4, n4, c4, r5, r6, r7, r8, rfl, -, -, f3, s3, s4⟩
    have D3 := hide (V.out.df.call f3)
    have B3 := hide (V.out.b0.stp f3.sp)
    have L3 := hide (L1.out.mono f3.sp.le)
    have S3 := hide s3
    have S4 := hide s4
    clear f3 s3 s4 V
    have q0 := B3.out.cell
    have f0 := B3.out.free
    go_wp2
    refine bodyPost_ret (v := .tuple #[.agg #[.slice A3 n3 c3, .slice A4 n4 c4, .int .i64 r5, .int .i64 r6, .int .i64 r7, .int .i64 r8], .slice A n c]) (by simp [results, Try.results55, go_sem, q0]) rfl ?_
    exact jd_typed D3.out B3.out (Nat.le_refl _) S3.out S4.out L3.out _ _ _ _ _ _
  have b0 : (q == 0) = false := by simp [h0]
  by_cases h1 : q = 1
  · subst h1
    skip
    have q5 := V.out.bb.cell
    have q6 := V.out.bb.lt
    have q0 := V.out.b0.cell
    go_wp2_with fail
    go_region_law (go_simp; go_at_call 77; refine (cu.anyItems_m w0 _ g _ T2 (V.out.df.ds.ext (Ext.drew _)) (by omega)).mono ?_; rintro e w5 ⟨T3, A3, n3, c3, rfl, -, f3, s3⟩; have V3 := hide ((V.out.ext (Ext.drew _)).stp f3.sp f3.ds); have S3 := hide s3; have r0 := V3.out.b0.cell; have rf := V3.out.b0.free; have r5 := V3.out.bb.cell; clear f3 s3)
    all_goals
      go_wp2
      refine bodyPost_ret (v := .tuple #[.agg #[.slice A1 n1 c1, .slice A2 5 c2, .int .i64 rp, .int .i64 q2, .int .i64 q3, .int .i64 q4], .slice A3 n3 c3]) (by simp [results, Try.results55, go_sem, r0]) rfl ?_
      exact jd_typed V3.out.df V3.out.b0 (Nat.le_refl _) V3.out.s1 V3.out.s2 S3.out _ _ _ _ _ _
  have b1 : (q == 1) = false := by simp [h1]
  by_cases h2 : q = 2
  · subst h2
    by_cases hn0 : 0 < n
    · have hnz : (0 : Int) < (n : Int) := by omega
      skip
      obtain ⟨xr, mr, hA, -⟩ := L1.out.pos hn0
      subst hA
      go_wp2_with fail
      refine (cu.pick_m w4 g _ n V.out.df.ds.cu (by omega) (by unfold InR; omega)).mono ?_
      rintro e w5 ⟨ri, rfl, ri0, ri1, -, ca, ka⟩
      obtain ⟨i, rfl⟩ : ∃ i : Nat, ri = i := ⟨ri.toNat, by omega⟩
      have hi : (i : Int) < n := ri1 (by omega)
      have hi2 : i < n := by omega
      have V2 := hide (V.out.curs ka ca)
      clear ca ka V ri1 ri0
      go_wp2_with fail
      refine (cu.anyItem_m w0 w5 g _ T2 V2.out.df.ds (by omega)).mono ?_
      rintro e w6 ⟨T3, A3, n3, c3, A4, n4, c4, q9, rfl, -, -, f3, s3, s4⟩
      have V3 := hide (V2.out.stp f3.sp f3.ds)
      have L3 := hide (L1.out.mono f3.sp.le)
      have S3 := hide s3
      have S4 := hide s4
      clear f3 s3 s4 V2
      obtain ⟨x, B1, y1, d1, B2, y2, d2, q8, ex, -, -, -, -, hTx, hxl, e0, e1, e2⟩ := V3.out.df.ds.it3 L3.out hi2
      obtain rfl : x = xr := (congrArg Addr.block (Option.some.inj ex)).symm
      have fx := V3.out.df.ds.ts.free hTx
      have q0 := V3.out.b0.cell
      have f0 := V3.out.b0.free
      have q5 := V3.out.bb.cell
      have n1x : x ≠ b := fun e => hTx (by rw [e]; exact V3.out.bb.hT)
      have n2x : x ≠ w.heap.size := fun e => hTx (by rw [e]; exact V3.out.b0.hT)
      go_wp2
      refine bodyPost_ret (v := .tuple #[.agg #[.slice A1 n1 c1, .slice A2 5 c2, .int .i64 rp, .int .i64 q2, .int .i64 q3, .int .i64 q4], .slice (some ⟨x, 0, none⟩) n c]) (by simp [results, Try.results55, go_sem, q0, n2x, Ne.symm n2x]) rfl ?_
      exact jd_put V3.out.df V3.out.b0 (Nat.le_refl _) V3.out.s1 V3.out.s2 L3.out hi2 S3.out S4.out _ _ _ _ _ _
    · obtain rfl : n = 0 := by omega
      skip
      have q0 := V.out.b0.cell
      have f0 := V.out.b0.free
      have q5 := V.out.bb.cell
      go_wp2
      refine bodyPost_ret (v := .tuple #[.agg #[.slice A1 n1 c1, .slice A2 5 c2, .int .i64 rp, .int .i64 q2, .int .i64 q3, .int .i64 q4], .slice A 0 c]) (by simp [results, Try.results55, go_sem, q0]) rfl ?_
      exact jd_typed V.out.df V.out.b0 (Nat.le_refl _) V.out.s1 V.out.s2 L1.out _ _ _ _ _ _
  have b2 : (q == 2) = false := by simp [h2]
  skip
  have q0 := V.out.b0.cell
  have f0 := V.out.b0.free
  have q5 := V.out.bb.cell
  go_wp2
  refine bodyPost_ret (v := .tuple #[.agg #[.slice A1 n1 c1, .slice A2 5 c2, .int .i64 rp, .int .i64 q2, .int .i64 q3, .int .i64 q4], .slice A n c]) (by simp [results, Try.results55, go_sem, q0]) rfl ?_
  exact jd_typed V.out.df V.out.b0 (Nat.le_refl _) V.out.s1 V.out.s2 L1.out _ _ _ _ _ _

/-- What a draw of a code and a list hands back at last. -/
abbrev CLPost (w : World) (e : Ending) (w' : World) : Prop := ∃ (A1 : Option Addr) (n1 c1 : Nat) (A2 : Option Addr) (n2 c2 : Nat) (r bo k f : Int) (A : Option Addr) (n c : Nat), e = .returned (.tuple #[.agg #[.slice A1 n1 c1, .slice A2 n2 c2, .int .i64 r, .int .i64 bo, .int .i64 k, .int .i64 f], .slice A n c]) ∧
  CoR w.heap.size w' (.agg #[.slice A1 n1 c1, .slice A2 n2 c2, .int .i64 r, .int .i64 bo, .int .i64 k, .int .i64 f]) ∧ LsR w.heap.size w' A n c ∧ Ext w w'
theorem Since.less {lo lo' : Nat} {w w2 : World} (h : Since lo' w w2) (hl : lo' ≤ lo) : Since lo w w2 := ⟨h.1, fun i h1 h2 => h.2 i (by omega) h2⟩
theorem CoR.less {lo lo' : Nat} {w : World} {v : Value} (h : CoR lo w v) (hl : lo' ≤ lo) : CoR lo' w v := by
  obtain ⟨d, h1, h2⟩ := h
  exact ⟨d, h1, fun w2 k => h2 w2 (k.less hl)⟩
theorem LsR.less {lo lo' : Nat} {w : World} {A : Option Addr} {n c : Nat} (h : LsR lo w A n c) (hl : lo' ≤ lo) : LsR lo' w A n c := by
  obtain ⟨xs, h1, h2, h3, h4⟩ := h
  exact ⟨xs, h1, h2, h3, fun w2 k => h4 w2 (k.less hl)⟩
theorem Since.put6 {lo : Nat} (w : World) {x : Nat} (hx : x < lo) (u0 u1 u2 u3 u4 u5 : Value) : Since lo w (set6 w x u0 u1 u2 u3 u4 u5) :=
  (((((Since.put _ hx _).trans (Since.put _ hx _)).trans (Since.put _ hx _)).trans (Since.put _ hx _)).trans (Since.put _ hx _)).trans (Since.put _ hx _)
theorem TchF.ext0 {w w0 w' : World} {g : Nat} (k : TchF [g] w0 w') (h : Ext w w0) (hg : w.heap.size ≤ g) : Ext w w' := h.tchF k (by simpa using hg)
set_option maxRecDepth 100000 in
set_option maxHeartbeats 2000000 in
theorem s.DrawKnowsItems_m (w : World) (A : Option Addr) (n c : Nat) (h : ArgB w A n c) : Calls Try.prog 24 #[.slice A n c] w fun e w' => CLPost w e w' := by
  obtain ⟨W0, hW0⟩ : ∃ W0, Hid (W0 = (w.alloc (.cells zC 27)).alloc (.cells #[.slice A n c, .int .i64 0, .int .u64 0] 61)) := ⟨_, rfl⟩
  obtain ⟨g, hg⟩ : ∃ g, Hid (g = w.heap.size + 1) := ⟨_, rfl⟩
  have CU : Hid (Cur W0 g 0) := by
    rw [hW0.out, hg.out]
    have := Cur.new (h.ext (Ext.alloc w (.cells zC 27)))
    show Cur _ _ _
    simpa using this
  have X : Hid (Ext w W0) := by rw [hW0.out]; exact (Ext.alloc w _).trans (Ext.alloc _ _)
  have BX : Hid (Blk W0 w.heap.size zC 27) := by rw [hW0.out]; exact (Blk.new rfl _ _).alloc _
  have gl : w.heap.size < g := by rw [hg.out]; omega
  clear h
  go_enter Try.func24, Try.ntmps24
  go_wp2_with fail
  rw [← hW0.out, ← hg.out]
  clear hW0 hg
  refine (cu.judged_m W0 W0 g 0 _ (DS.init CU.out) (by omega)).mono ?_
  rintro e w1 ⟨A1, n1, c1, A2, n2, c2, r, bo, k, f, A3, n3, c3, rfl, hc, hl, hk⟩
  have BY := hide (BX.out.tchF hk (by simp; omega))
  have HC := hide hc
  have HL := hide hl
  have Y := hide (hk.ext0 X.out (by omega))
  have wl := BX.out.lt
  clear hc hl hk CU X BX
  have q0 := BY.out.cell
  have f0 := BY.out.free
  go_wp2
  refine bodyPost_ret (v := .tuple #[.agg #[.slice A1 n1 c1, .slice A2 n2 c2, .int .i64 r, .int .i64 bo, .int .i64 k, .int .i64 f], .slice A3 n3 c3]) (by simp [results, Try.results24, go_sem, q0]) rfl ?_
  have sn := Since.put6 (lo := W0.heap.size) w1 wl (.slice A1 n1 c1) (.slice A2 n2 c2) (.int .i64 r) (.int .i64 bo) (.int .i64 k) (.int .i64 f)
  exact ⟨A1, n1, c1, A2, n2, c2, r, bo, k, f, A3, n3, c3, rfl, (HC.out.since sn).less (by omega), (HL.out.since sn).less (by omega), Y.out.tchF (set6_tch _ _ _ _ _ _ _ _) (by simp)⟩
set_option maxRecDepth 100000 in
set_option maxHeartbeats 2000000 in
theorem s.DrawBaseValues_m (w : World) (A : Option Addr) (n c : Nat) (h : ArgB w A n c) : Calls Try.prog 5 #[.slice A n c] w fun e w' => CLPost w e w' := by
  obtain ⟨W0, hW0⟩ : ∃ W0, Hid (W0 = w.alloc (.cells zC 27)) := ⟨_, rfl⟩
  have X : Hid (Ext w W0) := by rw [hW0.out]; exact Ext.alloc w _
  have BX : Hid (Blk W0 w.heap.size zC 27) := by rw [hW0.out]; exact Blk.new rfl _ _
  have HA := hide (h.ext X.out)
  clear h
  go_enter Try.func5, Try.ntmps5
  go_wp2_with fail
  rw [← hW0.out]
  clear hW0
  refine (s.DrawKnowsItems_m W0 A n c HA.out).mono ?_
  rintro e w1 ⟨A1, n1, c1, A2, n2, c2, r, bo, k, f, A3, n3, c3, rfl, hc, hl, x1⟩
  have BY := hide (BX.out.ext x1)
  have HC := hide hc
  have HL := hide hl
  have Y := hide (X.out.trans x1)
  have q0 := BY.out.cell
  have f0 := BY.out.free
  have wl := BX.out.lt
  clear hc hl x1 BX X HA
  go_wp2
  refine bodyPost_ret (v := .tuple #[.agg #[.slice A1 n1 c1, .slice A2 n2 c2, .int .i64 r, .int .i64 bo, .int .i64 k, .int .i64 f], .slice A3 n3 c3]) (by simp [results, Try.results5, go_sem, q0]) rfl ?_
  have sn := Since.put6 (lo := W0.heap.size) w1 wl (.slice A1 n1 c1) (.slice A2 n2 c2) (.int .i64 r) (.int .i64 bo) (.int .i64 k) (.int .i64 f)
  exact ⟨A1, n1, c1, A2, n2, c2, r, bo, k, f, A3, n3, c3, rfl, (HC.out.since sn).less (by omega), (HL.out.since sn).less (by omega), Y.out.tchF (set6_tch _ _ _ _ _ _ _ _) (by simp)⟩

set_option maxRecDepth 100000 in
set_option maxHeartbeats 4000000 in
theorem s.DrawElementWorth_m (w : World) (A : Option Addr) (n c : Nat) (h : ArgB w A n c) : Calls Try.prog 21 #[.slice A n c] w fun e w' => ∃ (A1 : Option Addr) (n1 c1 : Nat) (A2 : Option Addr) (n2 c2 : Nat) (r bo k f : Int) (y : List UInt8) (z : Int), e = .returned (.tuple #[.agg #[.slice A1 n1 c1, .slice A2 n2 c2, .int .i64 r, .int .i64 bo, .int .i64 k, .int .i64 f], .string (bs y), .int .i64 z]) ∧ y.length ≤ 16 ∧ InR z ∧
    CoR w.heap.size w' (.agg #[.slice A1 n1 c1, .slice A2 n2 c2, .int .i64 r, .int .i64 bo, .int .i64 k, .int .i64 f]) ∧ Ext w w' := by
  obtain ⟨W0, hW0⟩ : ∃ W0, Hid (W0 = (w.alloc (.cells zC 27)).alloc (.cells #[.slice A n c, .int .i64 0, .int .u64 0] 61)) := ⟨_, rfl⟩
  obtain ⟨g, hg⟩ : ∃ g, Hid (g = w.heap.size + 1) := ⟨_, rfl⟩
  have CU : Hid (Cur W0 g 0) := by
    rw [hW0.out, hg.out]
    have := Cur.new (h.ext (Ext.alloc w (.cells zC 27)))
    show Cur _ _ _
    simpa using this
  have X : Hid (Ext w W0) := by rw [hW0.out]; exact (Ext.alloc w _).trans (Ext.alloc _ _)
  have BX : Hid (Blk W0 w.heap.size zC 27) := by rw [hW0.out]; exact (Blk.new rfl _ _).alloc _
  have gl : w.heap.size < g := by rw [hg.out]; omega
  clear h
  go_enter Try.func21, Try.ntmps21
  go_wp2_with fail
  rw [← hW0.out, ← hg.out]
  clear hW0 hg
  have S0 := hide (DS.init (L := 64) CU.out)
  refine (cu.anyCodeT W0 W0 g 0 _ S0.out (by omega)).mono ?_
  rintro e w1 ⟨T1, A1, n1, c1, A2, n2, c2, r, bo, k, f, rfl, m1, m2, f1, s1, s2⟩
  have wl := BX.out.lt
  have BY := hide (BX.out.tchF f1.ds.tch (by simp; omega))
  have XB : Hid (Ext w W0) := X
  obtain ⟨b, hb⟩ : ∃ b, Hid (w1.heap.size = b) := ⟨_, rfl⟩
  have D1 := hide (f1.ext (Ext.alloc w1 (.cells #[.slice A1 n1 c1, .slice A2 n2 c2, .int .i64 r, .int .i64 bo, .int .i64 k, .int .i64 f] 27)))
  have BB := hide (Bx.newAt f1.ds hb.out #[.slice A1 n1 c1, .slice A2 n2 c2, .int .i64 r, .int .i64 bo, .int .i64 k, .int .i64 f] 27)
  have BZ := hide (BY.out.ext (Ext.alloc w1 (.cells #[.slice A1 n1 c1, .slice A2 n2 c2, .int .i64 r, .int .i64 bo, .int .i64 k, .int .i64 f] 27)))
  have S1 := hide s1
  have S2 := hide s2
  have bw : W0.heap.size ≤ b := by have := f1.ds.size; have := hb.out; omega
  clear f1 s1 s2 BY BX CU S0
  go_upto_region 3 with fail
  rw [hb.out]
  clear hb
  generalize w1.alloc (.cells #[.slice A1 n1 c1, .slice A2 n2 c2, .int .i64 r, .int .i64 bo, .int .i64 k, .int .i64 f] 27) = w2 at *
  have nz : (n1 : Int) ≤ 25 := by omega
  go_upto_region 4 with fail
  go_cut [21] (fun s21 wx => ∃ B, s21 = .bool B ∧ (B = true → 0 < n1) ∧ DF W0 W0 g 64 1102 (fun _ => none) T1 wx ∧ Bx g T1 wx b #[.slice A1 n1 c1, .slice A2 n2 c2, .int .i64 r, .int .i64 bo, .int .i64 k, .int .i64 f] 27 ∧ Blk wx w.heap.size zC 27)
  case first =>
    have q5 := BB.out.cell
    by_cases h0 : 0 < n1
    · have h0z : (0 : Int) < (n1 : Int) := by omega
      go_wp2_with fail
      refine (cu.one_m w2 g _ 8 D1.out.ds.cu (by omega) (by unfold InR; omega)).mono ?_
      rintro e w3 ⟨q, rfl, ca, ka⟩
      go_wp2
      go_meet
      exact ⟨_, rfl, fun _ => h0, (D1.out.curs ka ca).more (by omega), BB.out.curs ka, BZ.out.tchF ka (by simp; omega)⟩
    · obtain rfl : n1 = 0 := by omega
      go_wp2
      go_meet
      exact ⟨false, rfl, by simp, D1.out.more (by omega), BB.out, BZ.out⟩
  case rest =>
    obtain ⟨B, rfl, hB, df, bx, bz⟩ := hcut
    clear D1 BB BZ
    have D1 := hide df
    have BB := hide bx
    have BZ := hide bz
    clear df bx bz
    go_upto_if 21 with fail
    go_cut [7] (fun s7 wx => ∃ y, s7 = .string (bs y) ∧ y.length ≤ 16 ∧ DF W0 W0 g 64 1104 (fun _ => none) T1 wx ∧ Bx g T1 wx b #[.slice A1 n1 c1, .slice A2 n2 c2, .int .i64 r, .int .i64 bo, .int .i64 k, .int .i64 f] 27 ∧ Blk wx w.heap.size zC 27)
    case first =>
      cases B
      · go_wp2
        go_meet
        exact ⟨[90, 90, 90], rfl, by decide, D1.out.more (by omega), BB.out, BZ.out⟩
      · have h0 := hB rfl
        have h0z : (0 : Int) < (n1 : Int) := by omega
        obtain ⟨xe, me, rfl, hTe, -⟩ := S1.out.pos h0
        have cb := BB.out.cell 0
        have bl := BB.out.lt
        go_wp2_with fail
        go_region_law (go_simp; go_at_call 49; refine (cu.pick_m _ g _ n1 (D1.out.ds.cu.ext (Ext.drew _)) (by omega) (by unfold InR; omega)).mono ?_; rintro e w5 ⟨ri, rfl, ri0, ri1, -, ca, ka⟩; obtain ⟨i, rfl⟩ : ∃ i : Nat, ri = i := ⟨ri.toNat, by omega⟩; have hi : (i : Int) < n1 := ri1 (by omega); have D5 := hide ((D1.out.ext (Ext.drew _)).curs ka ca); have B5 := hide ((BB.out.ext (Ext.drew _)).curs ka); have Z5 := hide ((BZ.out.ext (Ext.drew _)).tchF ka (by simp; omega)); have cb5 := B5.out.cell 0; obtain ⟨x, y, a1, a2, a3, ex, hy, -, -, e0, -, -, -⟩ := D5.out.ds.el4 S1.out (show i < n1 by omega); obtain rfl : x = xe := (congrArg Addr.block (Option.some.inj ex)).symm; have HY := hide hy; clear ca ka hy ri1)
        all_goals
          go_wp2
          go_meet
          exact ⟨y, rfl, HY.out, D5.out.more (by omega), B5.out, Z5.out⟩
    case rest =>
      obtain ⟨y, rfl, hy, df, bx, bz⟩ := hcut
      clear D1 BB BZ
      have D1 := hide df
      have BB := hide bx
      have BZ := hide bz
      have HY := hide hy
      clear df bx bz hy
      have q5 := BB.out.cell
      have bl := BB.out.lt
      have bzl := BZ.out.lt
      have SC := hide (And.intro D1.out (And.intro BB.out BZ.out))
      go_wp2_with fail
      go_region_law (go_simp; go_at_call 49; refine (cu.pick_m _ g _ _ (SC.out.1.ds.cu.ext (by first | with_reducible exact Ext.refl _ | with_reducible exact Ext.drew _)) (by omega) (by unfold InR; omega)).mono ?_; rintro e w7 ⟨zi, rfl, -, -, -, c7, k7⟩; have SC := hide (And.intro ((SC.out.1.ext (by first | with_reducible exact Ext.refl _ | with_reducible exact Ext.drew _)).curs k7 c7) (And.intro ((SC.out.2.1.ext (by first | with_reducible exact Ext.refl _ | with_reducible exact Ext.drew _)).curs k7) ((SC.out.2.2.ext (by first | with_reducible exact Ext.refl _ | with_reducible exact Ext.drew _)).tchF k7 (by simp; omega)))); have q5 := SC.out.2.1.cell; have q0 := SC.out.2.2.cell; have f0 := SC.out.2.2.free; have bl := SC.out.2.1.lt; clear c7 k7)
      all_goals
        go_wp2
        generalize hz : IntKind.i64.wrap (_ - IntKind.i64.wrap _) = z
        refine bodyPost_ret (v := .tuple #[.agg #[.slice A1 n1 c1, .slice A2 n2 c2, .int .i64 r, .int .i64 bo, .int .i64 k, .int .i64 f], .string (bs y), .int .i64 z]) (by simp [results, Try.results21, go_sem, q0]) rfl ?_
        have sn := Since.put6 (lo := W0.heap.size) w7 wl (.slice A1 n1 c1) (.slice A2 n2 c2) (.int .i64 r) (.int .i64 bo) (.int .i64 k) (.int .i64 f)
        exact ⟨A1, n1, c1, A2, n2, c2, r, bo, k, f, y, _, rfl, HY.out, hz ▸ inr_wrap _, ((SC.out.1.ds.ts.code S1.out S2.out r bo k f).since sn).less (by omega), (SC.out.1.ds.tch.ext0 X.out (by omega)).tchF (set6_tch _ _ _ _ _ _ _ _) (by simp)⟩
end Go.Proofs.Ytcngiipdffjkfaa
