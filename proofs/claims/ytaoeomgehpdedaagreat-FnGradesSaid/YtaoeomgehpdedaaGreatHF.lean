/- More draws of judged lists: columns, least grades, units. (Printed by hf.py.) -/
import Derived.Test.YtaoeomgehpdedaaGreatHC
import Derived.Test.YtaoeomgehpdedaaGreatHE
namespace Go.Proofs.YtaoeomgehpdedaaGreat
open Go.RowKit Go.Sort
set_option linter.unusedVariables false

/-- What a draw handed back, read for good. -/
structure DjS (lo : Nat) (w : World) (v : Value) (A : Option Addr) (c : Nat) (vm : Value) (d : CoD) (xs : List ItD) (m : MD) : Prop where
  all : ∀ w2, Since lo w w2 → Dj w2 v A c vm d xs m
theorem DjS.since {lo c : Nat} {w w2 : World} {v vm : Value} {A : Option Addr} {d : CoD} {xs : List ItD} {m : MD} (h : DjS lo w v A c vm d xs m) (k : Since lo w w2) : DjS lo w2 v A c vm d xs m := ⟨fun w3 k3 => h.all w3 (k.trans k3)⟩
theorem DjS.now {lo c : Nat} {w : World} {v vm : Value} {A : Option Addr} {d : CoD} {xs : List ItD} {m : MD} (h : DjS lo w v A c vm d xs m) : Dj w v A c vm d xs m := h.all w (Since.refl _ _)
theorem djS_of {lo : Nat} {w : World} {v vm : Value} {A : Option Addr} {n c : Nat} {m : MD} (hc : CoR lo w v) (hl : LsR lo w A n c) (hm : RdA kM lo w vm m) (om : kM.ok m) : ∃ d xs, DjS lo w v A c vm d xs m ∧ xs.length = n := by
  obtain ⟨d, h1, h2⟩ := hc
  obtain ⟨xs, h3, h4, _, h5⟩ := hl
  exact ⟨d, xs, ⟨fun w2 k => ⟨h2 w2 k, h1, h5 w2 k, h4, (hm.since k).rd, om⟩⟩, h3⟩
/-- An item that stays readable. -/
def ItR (lo : Nat) (w : World) (v : Value) : Prop := ∃ x : ItD, kIm.ok x ∧ ∀ w2, Since lo w w2 → kIm.rd w2 v x
theorem ItR.since {lo : Nat} {w w2 : World} {v : Value} (h : ItR lo w v) (k : Since lo w w2) : ItR lo w2 v := by
  obtain ⟨x, h1, h2⟩ := h
  exact ⟨x, h1, fun w3 k3 => h2 w3 (k.trans k3)⟩
theorem ItR.less {lo lo' : Nat} {w : World} {v : Value} (h : ItR lo w v) (hl : lo' ≤ lo) : ItR lo' w v := by
  obtain ⟨x, h1, h2⟩ := h
  exact ⟨x, h1, fun w2 k => h2 w2 (k.less hl)⟩
theorem TS.itemR {lo : Nat} {T : Typ} {w : World} {A1 A2 : Option Addr} {n1 c1 n2 c2 : Nat} (h : TS lo 64 T w) (s1 : ST T [.str] 9 A1 n1 c1) (s2 : ST T [.int] 3 A2 n2 c2) (q : Bool) :
    ItR lo w (.agg #[.slice A1 n1 c1, .slice A2 n2 c2, .bool q]) := by
  obtain ⟨xs, h1, h3, h5⟩ := LR.of_ST rfl (exp_str 64) h s1
  obtain ⟨zs, h2, h4, _⟩ := LR.of_ST rfl (exp_int 64) h s2
  have l1 := (h.len s1).1
  have l2 := (h.len s2).1
  have hp : pIt 0 64 (xs, zs, q) := ⟨⟨Nat.zero_le _, by show xs.length ≤ 64; omega, h5⟩, ⟨Nat.zero_le _, by show zs.length ≤ 64; omega, fun _ _ => trivial⟩, trivial⟩
  refine ⟨(xs, zs, q), ?_, fun w2 k2 => ?_⟩
  · have := hp.wt
    show kdItem.wt _ ≤ 1048576
    omega
  · refine ⟨[.slice A1 xs.length c1, .slice A2 zs.length c2, .bool q], by rw [h3, h4]; rfl, kdItem.mk_ (d := (xs, zs, q)) (LR.since flatS h s1 (Nat.le_of_eq h3) h1 k2) (LR.since flatI h s2 (Nat.le_of_eq h4) h2 k2)⟩
/-- Where a list that stays readable lies. -/
theorem LsR.far {lo n c : Nat} {w : World} {A : Option Addr} (h : LsR lo w A n c) (hn : 0 < n) : ∃ x o, A = some ⟨x, o, none⟩ ∧ lo ≤ x ∧ x < w.heap.size := by
  obtain ⟨xs, h1, _, _, h4⟩ := h
  obtain ⟨y, hy⟩ : ∃ y, Hid (xs[0]? = some y) := get_ex xs 0 (by omega)
  obtain ⟨x, o, _, _, _, _, rfl, hx, i0, -⟩ := (h4 w (Since.refl _ _)).item 0 y hy.out
  refine ⟨x, o, rfl, Nat.le_of_not_lt fun hlt => ?_, hx⟩
  let w2 : World := { w with heap := w.heap.setIfInBounds x (.cells #[] 0) }
  have e1 : w2.heap[x]? = some (.cells #[] 0) := by show (w.heap.setIfInBounds x _)[x]? = _; rw [Array.getElem?_setIfInBounds]; simp [hx]
  have k : Since lo w w2 := ⟨by show _ ≤ (w.heap.setIfInBounds x _).size; simp, fun i hi _ => by show (w.heap.setIfInBounds x _)[i]? = _; rw [Array.getElem?_setIfInBounds, if_neg (by omega)]⟩
  obtain ⟨x', o', _, _, _, _, hA, _, j0, -⟩ := (h4 w2 k).item 0 y hy.out
  simp only [Option.some.injEq, Addr.mk.injEq, and_true] at hA
  obtain ⟨rfl, rfl⟩ := hA
  simp [World.cell?, e1] at j0
theorem LsR.pick {lo n c i x o : Nat} {w : World} (h : LsR lo w (some ⟨x, o, none⟩) n c) (hlo : lo ≤ x) (hi : i < n) : ∃ C1 m1 e1 C2 m2 e2 q, w.cell? ⟨x, o + i * 3, none⟩ = some (.slice C1 m1 e1) ∧ w.cell? ⟨x, o + i * 3 + 1, none⟩ = some (.slice C2 m2 e2) ∧ w.cell? ⟨x, o + i * 3 + 2, none⟩ = some (.bool q) ∧
    ItR lo w (.agg #[.slice C1 m1 e1, .slice C2 m2 e2, .bool q]) := by
  obtain ⟨xs, h1, h2, _, h4⟩ := h
  obtain ⟨y, hy⟩ : ∃ y, Hid (xs[i]? = some y) := get_ex xs i (by omega)
  obtain ⟨x', o', C1, e1, C2, e2, hA, hx, i0, i1, i2, -, -⟩ := (h4 w (Since.refl _ _)).item i y hy.out
  simp only [Option.some.injEq, Addr.mk.injEq, and_true] at hA
  obtain ⟨rfl, rfl⟩ := hA
  refine ⟨C1, _, e1, C2, _, e2, _, i0, i1, i2, y, Nat.le_trans (wtL_at kdItem xs i y hy.out) h2, fun w2 k => ?_⟩
  obtain ⟨x', o', D1, f1, D2, f2, hA, _, j0, j1, j2, L1, L2⟩ := (h4 w2 k).item i y hy.out
  simp only [Option.some.injEq, Addr.mk.injEq, and_true] at hA
  obtain ⟨rfl, rfl⟩ := hA
  have cc : ∀ p, w2.cell? ⟨x, p, none⟩ = w.cell? ⟨x, p, none⟩ := fun p => World.cell?_of_block (k.2 x hlo hx)
  rw [cc, i0] at j0
  rw [cc, i1] at j1
  simp only [Option.some.injEq, Value.slice.injEq, true_and] at j0 j1
  obtain ⟨rfl, rfl⟩ := j0
  obtain ⟨rfl, rfl⟩ := j1
  exact ⟨_, rfl, kdItem.mk_ L1 L2⟩
theorem LsR.caps {lo n c : Nat} {w : World} {A : Option Addr} (h : LsR lo w A n c) : n ≤ c ∧ c ≤ 9223372036854775807 := by
  obtain ⟨xs, h1, _, _, h4⟩ := h
  have := h4 w (Since.refl _ _)
  exact ⟨by have := this.1; omega, this.2.1⟩
abbrev set3 (w : World) (x : Nat) (u0 u1 u2 : Value) : World := ((w.setCell ⟨x, 0, none⟩ u0).setCell ⟨x, 1, none⟩ u1).setCell ⟨x, 2, none⟩ u2
theorem Dj.has {w : World} {v vm : Value} {A : Option Addr} {c N : Nat} {d : CoD} {xs : List ItD} {m : MD} {k : Int} {J : Bool} (h : Dj w v A c vm d xs m) (hN : xs.length = N) (hk : InR k) (hJ : hasJ d xs m k = J) : Calls Tryz.prog 51 #[v, .slice A N c, vm, .int .i64 k] w fun e w' => e = .returned (.bool J) ∧ Ext w w' := by
  subst hN hJ
  exact s.elHas_m w v _ vm d xs m h.rd h.ok h.kit h.wt h.rm h.om k hk
theorem Dj.score {w : World} {v vm : Value} {A : Option Addr} {c N k : Nat} {d : CoD} {xs : List ItD} {m : MD} (h : Dj w v A c vm d xs m) (hN : xs.length = N) (jo : JOk d xs m) (hk : k < xs.length) : Calls Tryz.prog 41 #[v, .slice A N c, vm, .int .i64 k] w fun e w' => e = .returned (.int .i64 (scoreF d xs m k)) ∧ Ext w w' := by
  subst hN
  exact s.elScore_m w v _ vm d xs m k h.rd h.ok h.kit h.rm jo hk
theorem most_b (a b : Int) (w : World) (ha : -10000000000 ≤ a ∧ a ≤ 10000000000) (hb : -10000000000 ≤ b ∧ b ≤ 10000000000) : Calls Tryz.prog 66 #[.int .i64 a, .int .i64 b] w fun e w' => ∃ p, e = .returned (.int .i64 p) ∧ InR p ∧ w' = w := by
  refine (cu.most_m a b w).mono ?_
  rintro e w' ⟨rfl, rfl⟩
  refine ⟨_, rfl, ?_, rfl⟩
  unfold InR
  split <;> omega
/-- A judged list in its boxes; a second result's box beside. -/
structure JK (W0 : World) (g M : Nat) (w : World) (b b2 z0 z1 : Nat) (cs : Array Value) (t : TypeId) (A1 : Option Addr) (n1 c1 : Nat) (A2 : Option Addr) (n2 c2 : Nat) (r bo k f : Int) (A : Option Addr) (n c : Nat) (Ag : Option Addr) (ng cg : Nat) (Ac : Option Addr) (nc cc : Nat) (d : MD) : Prop where
  cu : Cur w g M
  k1 : Blk w b #[.slice A1 n1 c1, .slice A2 n2 c2, .int .i64 r, .int .i64 bo, .int .i64 k, .int .i64 f] 26
  k2 : Blk w b2 #[.slice Ag ng cg, .slice Ac nc cc] 30
  k3 : Blk w z0 zC 26
  k4 : Blk w z1 cs t
  gW : g < W0.heap.size
  zg : z0 < g
  zg1 : z1 < g
  gb : g < b
  gb2 : g < b2
  co : CoR W0.heap.size w (.agg #[.slice A1 n1 c1, .slice A2 n2 c2, .int .i64 r, .int .i64 bo, .int .i64 k, .int .i64 f])
  ls : LsR W0.heap.size w A n c
  ma : RdA kM W0.heap.size w (.agg #[.slice Ag ng cg, .slice Ac nc cc]) d
  ok : kM.ok d
  tch : TchF [g] W0 w
section
variable {W0 w w' wx : World} {g M M' b b2 z0 z1 n1 c1 n2 c2 n c ng cg nc cc : Nat} {cs : Array Value} {t : TypeId} {A1 A2 A Ag Ac : Option Addr} {r bo k f : Int} {d : MD}
theorem JK.ext (h : JK W0 g M w b b2 z0 z1 cs t A1 n1 c1 A2 n2 c2 r bo k f A n c Ag ng cg Ac nc cc d) (x : Ext w w') : JK W0 g M w' b b2 z0 z1 cs t A1 n1 c1 A2 n2 c2 r bo k f A n c Ag ng cg Ac nc cc d :=
  ⟨h.cu.ext x, h.k1.ext x, h.k2.ext x, h.k3.ext x, h.k4.ext x, h.gW, h.zg, h.zg1, h.gb, h.gb2, h.co.since (Since.of_ext x), h.ls.since (Since.of_ext x), h.ma.ext x, h.ok, h.tch.stepX x⟩
theorem JK.more (h : JK W0 g M w b b2 z0 z1 cs t A1 n1 c1 A2 n2 c2 r bo k f A n c Ag ng cg Ac nc cc d) (hm : M ≤ M') : JK W0 g M' w b b2 z0 z1 cs t A1 n1 c1 A2 n2 c2 r bo k f A n c Ag ng cg Ac nc cc d :=
  ⟨h.cu.more hm, h.k1, h.k2, h.k3, h.k4, h.gW, h.zg, h.zg1, h.gb, h.gb2, h.co, h.ls, h.ma, h.ok, h.tch⟩
theorem JK.sn (h : JK W0 g M w b b2 z0 z1 cs t A1 n1 c1 A2 n2 c2 r bo k f A n c Ag ng cg Ac nc cc d) (x : Ext w wx) (y : TchF [g] wx w') : Since W0.heap.size w w' :=
  (Since.of_ext x).trans (Since.of_tchF y (by have := h.gW; simpa using this))
theorem JK.step (h : JK W0 g M w b b2 z0 z1 cs t A1 n1 c1 A2 n2 c2 r bo k f A n c Ag ng cg Ac nc cc d) (x : Ext w wx) (y : TchF [g] wx w') (z : Cur w' g M') : JK W0 g M' w' b b2 z0 z1 cs t A1 n1 c1 A2 n2 c2 r bo k f A n c Ag ng cg Ac nc cc d := by
  have q := h.ext x
  have h1 := h.gW; have h2 := h.zg; have h3 := h.zg1; have h4 := h.gb; have h5 := h.gb2
  have sn : Since W0.heap.size wx w' := Since.of_tchF y (by simpa using h1)
  exact ⟨z, q.k1.tchF y (by simp; omega), q.k2.tchF y (by simp; omega), q.k3.tchF y (by simp; omega), q.k4.tchF y (by simp; omega), h1, h2, h3, h4, h5, q.co.since sn, q.ls.since sn, q.ma.since sn, h.ok, q.tch.step y (fun i hi => .inl (by simpa using hi))⟩
theorem JK.out (h : JK W0 g M w b b2 z0 z1 cs t A1 n1 c1 A2 n2 c2 r bo k f A n c Ag ng cg Ac nc cc d) (w0 : World) (hz : w0.heap.size ≤ z0) (hz1 : w0.heap.size ≤ z1) (X : Ext w0 W0) (u0 u1 u2 u3 u4 u5 v0 v1 : Value) :
    CoR w0.heap.size (set2 (set6 w z0 u0 u1 u2 u3 u4 u5) z1 v0 v1) (.agg #[.slice A1 n1 c1, .slice A2 n2 c2, .int .i64 r, .int .i64 bo, .int .i64 k, .int .i64 f]) ∧ LsR w0.heap.size (set2 (set6 w z0 u0 u1 u2 u3 u4 u5) z1 v0 v1) A n c ∧ RdA kM w0.heap.size (set2 (set6 w z0 u0 u1 u2 u3 u4 u5) z1 v0 v1) (.agg #[.slice Ag ng cg, .slice Ac nc cc]) d ∧ Ext w0 (set2 (set6 w z0 u0 u1 u2 u3 u4 u5) z1 v0 v1) := by
  have h1 := h.gW; have h2 := h.zg; have h3 := h.zg1
  have hX := X.size
  have sn : Since W0.heap.size w (set2 (set6 w z0 u0 u1 u2 u3 u4 u5) z1 v0 v1) := ((Since.put6 w (show z0 < W0.heap.size by omega) u0 u1 u2 u3 u4 u5).trans (Since.put _ (show z1 < W0.heap.size by omega) _)).trans (Since.put _ (show z1 < W0.heap.size by omega) _)
  refine ⟨(h.co.since sn).less hX, (h.ls.since sn).less hX, (h.ma.since sn).less hX, ?_⟩
  have e6 := (h.tch.ext0 X (by omega)).tchF (set6_tch w z0 u0 u1 u2 u3 u4 u5) (by simp; omega)
  exact e6.tchF ((TchF.put _ ⟨z1, 0, none⟩ v0 (fp := [z1]) (by simp)).trans (TchF.put _ ⟨z1, 1, none⟩ v1 (fp := [z1]) (by simp))) (by simp; omega)
theorem JK.out1 (h : JK W0 g M w b b2 z0 z1 cs t A1 n1 c1 A2 n2 c2 r bo k f A n c Ag ng cg Ac nc cc d) (w0 : World) (hz : w0.heap.size ≤ z0) (X : Ext w0 W0) (u0 u1 u2 u3 u4 u5 : Value) :
    CoR w0.heap.size (set6 w z0 u0 u1 u2 u3 u4 u5) (.agg #[.slice A1 n1 c1, .slice A2 n2 c2, .int .i64 r, .int .i64 bo, .int .i64 k, .int .i64 f]) ∧ LsR w0.heap.size (set6 w z0 u0 u1 u2 u3 u4 u5) A n c ∧ Ext w0 (set6 w z0 u0 u1 u2 u3 u4 u5) := by
  have h1 := h.gW; have h2 := h.zg
  have hX := X.size
  have sn : Since W0.heap.size w (set6 w z0 u0 u1 u2 u3 u4 u5) := Since.put6 w (show z0 < W0.heap.size by omega) u0 u1 u2 u3 u4 u5
  exact ⟨(h.co.since sn).less hX, (h.ls.since sn).less hX, (h.tch.ext0 X (by omega)).tchF (set6_tch w z0 u0 u1 u2 u3 u4 u5) (by simp; omega)⟩
theorem JK.out3 (h : JK W0 g M w b b2 z0 z1 cs t A1 n1 c1 A2 n2 c2 r bo k f A n c Ag ng cg Ac nc cc d) (w0 : World) (hz : w0.heap.size ≤ z0) (hz1 : w0.heap.size ≤ z1) (X : Ext w0 W0) {v : Value} (hv : ItR W0.heap.size w v) (u0 u1 u2 u3 u4 u5 v0 v1 v2 : Value) :
    CoR w0.heap.size (set3 (set6 w z0 u0 u1 u2 u3 u4 u5) z1 v0 v1 v2) (.agg #[.slice A1 n1 c1, .slice A2 n2 c2, .int .i64 r, .int .i64 bo, .int .i64 k, .int .i64 f]) ∧ ItR w0.heap.size (set3 (set6 w z0 u0 u1 u2 u3 u4 u5) z1 v0 v1 v2) v ∧ Ext w0 (set3 (set6 w z0 u0 u1 u2 u3 u4 u5) z1 v0 v1 v2) := by
  have h1 := h.gW; have h2 := h.zg; have h3 := h.zg1
  have hX := X.size
  have sn : Since W0.heap.size w (set3 (set6 w z0 u0 u1 u2 u3 u4 u5) z1 v0 v1 v2) := (((Since.put6 w (show z0 < W0.heap.size by omega) u0 u1 u2 u3 u4 u5).trans (Since.put _ (show z1 < W0.heap.size by omega) _)).trans (Since.put _ (show z1 < W0.heap.size by omega) _)).trans (Since.put _ (show z1 < W0.heap.size by omega) _)
  refine ⟨(h.co.since sn).less hX, (hv.since sn).less hX, ?_⟩
  have e6 := (h.tch.ext0 X (by omega)).tchF (set6_tch w z0 u0 u1 u2 u3 u4 u5) (by simp; omega)
  exact e6.tchF ((TchF.put _ ⟨z1, 0, none⟩ v0 (fp := [z1]) (by simp)).trans ((TchF.put _ ⟨z1, 1, none⟩ v1 (fp := [z1]) (by simp)).trans (TchF.put _ ⟨z1, 2, none⟩ v2 (fp := [z1]) (by simp)))) (by simp; omega)
end

set_option maxRecDepth 100000 in
set_option maxHeartbeats 20000000 in
theorem s.DrawColumnOf_m (w : World) (a0 : Option Addr) (m0 d0 : Nat) (h : ArgB w a0 m0 d0) : Calls Tryz.prog 24 #[.slice a0 m0 d0] w fun e w' => JLK w e w' := by
  obtain ⟨W0, hW0⟩ : ∃ W0, Hid (W0 = ((w.alloc (.cells zC 26)).alloc (.cells #[.slice none 0 0, .slice none 0 0] 30)).alloc (.cells #[.slice a0 m0 d0, .int .i64 0, .int .u64 0] 66)) := ⟨_, rfl⟩
  obtain ⟨g, hg⟩ : ∃ g, Hid (g = w.heap.size + 1 + 1) := ⟨_, rfl⟩
  obtain ⟨z1, hz1⟩ : ∃ z, Hid (z = w.heap.size + 1) := ⟨_, rfl⟩
  have CU : Hid (Cur W0 g 0) := by
    rw [hW0.out, hg.out]
    have := Cur.new (h.ext ((Ext.alloc w (.cells zC 26)).trans (Ext.alloc _ (.cells #[.slice none 0 0, .slice none 0 0] 30))))
    show Cur _ _ _
    simpa using this
  have X : Hid (Ext w W0) := by rw [hW0.out]; exact ((Ext.alloc w (.cells zC 26)).trans (Ext.alloc _ (.cells #[.slice none 0 0, .slice none 0 0] 30))).trans (Ext.alloc _ _)
  have BX : Hid (Blk W0 w.heap.size zC 26) := by rw [hW0.out]; exact ((Blk.new rfl _ _).alloc _).alloc _
  have BM : Hid (Blk W0 z1 #[.slice none 0 0, .slice none 0 0] 30) := by rw [hW0.out, hz1.out]; exact (Blk.new (by simp) _ _).alloc _
  have gl : w.heap.size < g := by rw [hg.out]; omega
  have zg : z1 < g := by rw [hg.out, hz1.out]; omega
  have zl1 : w.heap.size ≤ z1 := by rw [hz1.out]; omega
  have zne : w.heap.size ≠ z1 := by rw [hz1.out]; omega
  have gW : g < W0.heap.size := CU.out.lt
  clear h
  go_enter Tryz.func24, Tryz.ntmps24
  go_wp2_with fail
  rw [← hW0.out, ← hg.out, ← hz1.out]
  clear hW0 hg hz1
  refine (cu.judgedList_m W0 W0 g 0 _ (DS.init CU.out) (by omega)).mono ?_
  rintro e w1 ⟨A1, n1, c1, A2, n2, c2, r, bo, k, f, A, n, c, Ag, ng, cg, Ac, nc, cc, d, rfl, n15, co, ls, ma, ok, cu, tc⟩
  obtain ⟨w2, hw2⟩ : ∃ w2, Hid (w2 = (w1.alloc (.cells #[.slice A1 n1 c1, .slice A2 n2 c2, .int .i64 r, .int .i64 bo, .int .i64 k, .int .i64 f] 26)).alloc (.cells #[.slice Ag ng cg, .slice Ac nc cc] 30)) := ⟨_, rfl⟩
  obtain ⟨b, hb⟩ : ∃ b, Hid (b = w1.heap.size) := ⟨_, rfl⟩
  obtain ⟨b2, hb2⟩ : ∃ b, Hid (b = w1.heap.size + 1) := ⟨_, rfl⟩
  have SC : Hid (JK W0 g (0 + 12000) w2 b b2 w.heap.size z1 #[.slice none 0 0, .slice none 0 0] 30 A1 n1 c1 A2 n2 c2 r bo k f A n c Ag ng cg Ac nc cc d) := by
    have x2 : Ext w1 w2 := by rw [hw2.out]; exact (Ext.alloc w1 _).trans (Ext.alloc _ _)
    have hs := tc.size
    have k1 : Blk w2 b #[.slice A1 n1 c1, .slice A2 n2 c2, .int .i64 r, .int .i64 bo, .int .i64 k, .int .i64 f] 26 := by rw [hw2.out, hb.out]; exact (Blk.new rfl _ _).alloc _
    have k2 : Blk w2 b2 #[.slice Ag ng cg, .slice Ac nc cc] 30 := by rw [hw2.out, hb2.out]; exact Blk.new (by simp) _ _
    exact ⟨cu.ext x2, k1, k2, (BX.out.tchF tc (by simp; omega)).ext x2, (BM.out.tchF tc (by simp; omega)).ext x2, gW, gl, zg, by rw [hb.out]; omega, by rw [hb2.out]; omega, co.since (Since.of_ext x2), ls.since (Since.of_ext x2), ma.ext x2, ok, tc.stepX x2⟩
  clear co ls ma cu tc CU BX BM
  go_upto_region 3 with fail
  rw [← hw2.out, ← hb2.out, ← hb.out]
  clear hw2 hb2 hb
  have nz : (n : Int) ≤ 15 := by omega
  have bl := SC.out.k1.lt
  have bl2 := SC.out.k2.lt
  have gb := SC.out.gb
  have gb2 := SC.out.gb2
  have u1 : b ≠ w.heap.size := by omega
  have u2 : b2 ≠ w.heap.size := by omega
  have u3 : b ≠ z1 := by omega
  have u4 : b2 ≠ z1 := by omega
  have v3 := Ne.symm u3; have v4 := Ne.symm u4; have zs := Ne.symm zne
  have v1 := Ne.symm u1; have v2 := Ne.symm u2
  have q7 := SC.out.k1.cell; have q9 := SC.out.k2.cell; have q0 := SC.out.k3.cell; have f0 := SC.out.k3.free; have q1 := SC.out.k4.cell; have f1 := SC.out.k4.free; have bl := SC.out.k1.lt; have bl2 := SC.out.k2.lt; have bl3 := SC.out.k3.lt; have bl4 := SC.out.k4.lt
  clear f0 f1 bl3 bl4
  go_region_law (go_simp; go_at_call 48; refine (cu.pick_m _ g _ _ (SC.out.cu.ext (by first | with_reducible exact Ext.refl _ | with_reducible exact Ext.drew _)) (by omega) (by first | exact inr_wrap _ | (unfold InR; omega))).mono ?_; rintro e w7 ⟨zi, rfl, zi0, zi1, zi2, c7, k7⟩; have SC := hide (SC.out.step (by first | with_reducible exact Ext.refl _ | with_reducible exact Ext.drew _) k7 c7); have q7 := SC.out.k1.cell; have q9 := SC.out.k2.cell; have q0 := SC.out.k3.cell; have f0 := SC.out.k3.free; have q1 := SC.out.k4.cell; have f1 := SC.out.k4.free; have bl := SC.out.k1.lt; have bl2 := SC.out.k2.lt; have bl3 := SC.out.k3.lt; have bl4 := SC.out.k4.lt; clear c7 k7 zi1 zi2)
  all_goals
    go_wp2
    generalize hz : IntKind.i64.wrap (_ - _) = z
    refine bodyPost_ret (v := .tuple #[.agg #[.slice A1 n1 c1, .slice A2 n2 c2, .int .i64 r, .int .i64 bo, .int .i64 k, .int .i64 f], .slice A n c, .agg #[.slice Ag ng cg, .slice Ac nc cc], .int .i64 z]) (by simp [results, Tryz.results24, go_sem, q0, q1]) rfl ?_
    have ho := SC.out.out w (Nat.le_refl _) zl1 X.out (.slice A1 n1 c1) (.slice A2 n2 c2) (.int .i64 r) (.int .i64 bo) (.int .i64 k) (.int .i64 f) (.slice Ag ng cg) (.slice Ac nc cc)
    exact ⟨A1, n1, c1, A2, n2, c2, r, bo, k, f, A, n, c, Ag, ng, cg, Ac, nc, cc, d, z, rfl, n15, hz ▸ inr_wrap _, ho.1, ho.2.1, ho.2.2.1, ok, ho.2.2.2⟩
set_option maxRecDepth 100000 in
set_option maxHeartbeats 20000000 in
theorem s.DrawItemScore_m (w : World) (a0 : Option Addr) (m0 d0 : Nat) (h : ArgB w a0 m0 d0) : Calls Tryz.prog 31 #[.slice a0 m0 d0] w fun e w' => JLK w e w' := by
  obtain ⟨W0, hW0⟩ : ∃ W0, Hid (W0 = ((w.alloc (.cells zC 26)).alloc (.cells #[.slice none 0 0, .slice none 0 0] 30))) := ⟨_, rfl⟩
  obtain ⟨z1, hz1⟩ : ∃ z, Hid (z = w.heap.size + 1) := ⟨_, rfl⟩
  have X : Hid (Ext w W0) := by rw [hW0.out]; exact (Ext.alloc w _).trans (Ext.alloc _ _)
  have BX : Hid (Blk W0 w.heap.size zC 26) := by rw [hW0.out]; exact (Blk.new rfl _ _).alloc _
  have BM : Hid (Blk W0 z1 #[.slice none 0 0, .slice none 0 0] 30) := by rw [hW0.out, hz1.out]; exact Blk.new (by simp) _ _
  have zl1 : w.heap.size ≤ z1 := by rw [hz1.out]; omega
  have zne : w.heap.size ≠ z1 := by rw [hz1.out]; omega
  have HA := hide (h.ext X.out)
  clear h
  go_enter Tryz.func31, Tryz.ntmps31
  go_wp2_with fail
  rw [← hW0.out, ← hz1.out]
  clear hW0 hz1
  refine (s.DrawGradePoints_m W0 _ _ _ HA.out).mono ?_
  rintro e w1 ⟨A1, n1, c1, A2, n2, c2, r, bo, k, f, A, n, c, Ag, ng, cg, Ac, nc, cc, d, z, rfl, n15, hz, co, ls, ma, ok, x1⟩
  have BY := hide (BX.out.ext x1)
  have BN := hide (BM.out.ext x1)
  have Y := hide (X.out.trans x1)
  have HC := hide co
  have HL := hide ls
  have HM := hide ma
  have HZ := hide hz
  have hX := X.out.size
  have wl := BX.out.lt
  have wl1 := BM.out.lt
  clear co ls ma x1 HA BX BM X hz
  have q0 := BY.out.cell
  have f0 := BY.out.free
  have q1 := BN.out.cell
  have f1 := BN.out.free
  have bl := BY.out.lt
  have bl1 := BN.out.lt
  go_wp2
  refine bodyPost_ret (v := .tuple #[.agg #[.slice A1 n1 c1, .slice A2 n2 c2, .int .i64 r, .int .i64 bo, .int .i64 k, .int .i64 f], .slice A n c, .agg #[.slice Ag ng cg, .slice Ac nc cc], .int .i64 z]) (by simp [results, Tryz.results31, go_sem, q0, q1]) rfl ?_
  have sn : Since W0.heap.size w1 (set2 (set6 w1 w.heap.size (.slice A1 n1 c1) (.slice A2 n2 c2) (.int .i64 r) (.int .i64 bo) (.int .i64 k) (.int .i64 f)) z1 (.slice Ag ng cg) (.slice Ac nc cc)) := ((Since.put6 w1 wl _ _ _ _ _ _).trans (Since.put _ wl1 _)).trans (Since.put _ wl1 _)
  exact ⟨A1, n1, c1, A2, n2, c2, r, bo, k, f, A, n, c, Ag, ng, cg, Ac, nc, cc, d, z, rfl, n15, HZ.out, (HC.out.since sn).less hX, (HL.out.since sn).less hX, (HM.out.since sn).less hX, ok, (Y.out.tchF (set6_tch _ _ _ _ _ _ _ _) (by simp)).tchF ((TchF.put _ ⟨z1, 0, none⟩ _ (fp := [z1]) (by simp)).trans (TchF.put _ ⟨z1, 1, none⟩ _ (fp := [z1]) (by simp))) (by simp; omega)⟩
abbrev JLU (w : World) (e : Ending) (w' : World) : Prop := ∃ (A1 : Option Addr) (n1 c1 : Nat) (A2 : Option Addr) (n2 c2 : Nat) (r bo k f : Int) (B1 : Option Addr) (k1 d1 : Nat) (B2 : Option Addr) (k2 d2 : Nat) (q : Bool), e = .returned (.tuple #[.agg #[.slice A1 n1 c1, .slice A2 n2 c2, .int .i64 r, .int .i64 bo, .int .i64 k, .int .i64 f], .agg #[.slice B1 k1 d1, .slice B2 k2 d2, .bool q]]) ∧
  CoR w.heap.size w' (.agg #[.slice A1 n1 c1, .slice A2 n2 c2, .int .i64 r, .int .i64 bo, .int .i64 k, .int .i64 f]) ∧ ItR w.heap.size w' (.agg #[.slice B1 k1 d1, .slice B2 k2 d2, .bool q]) ∧ Ext w w'
set_option maxRecDepth 100000 in
set_option maxHeartbeats 20000000 in
theorem s.DrawUnitOf_m (w : World) (a0 : Option Addr) (m0 d0 : Nat) (h : ArgB w a0 m0 d0) : Calls Tryz.prog 30 #[.slice a0 m0 d0] w fun e w' => JLU w e w' := by
  obtain ⟨W0, hW0⟩ : ∃ W0, Hid (W0 = ((w.alloc (.cells zC 26)).alloc (.cells #[.slice none 0 0, .slice none 0 0, .bool false] 47)).alloc (.cells #[.slice a0 m0 d0, .int .i64 0, .int .u64 0] 66)) := ⟨_, rfl⟩
  obtain ⟨g, hg⟩ : ∃ g, Hid (g = w.heap.size + 1 + 1) := ⟨_, rfl⟩
  obtain ⟨z1, hz1⟩ : ∃ z, Hid (z = w.heap.size + 1) := ⟨_, rfl⟩
  have CU : Hid (Cur W0 g 0) := by
    rw [hW0.out, hg.out]
    have := Cur.new (h.ext ((Ext.alloc w (.cells zC 26)).trans (Ext.alloc _ (.cells #[.slice none 0 0, .slice none 0 0, .bool false] 47))))
    show Cur _ _ _
    simpa using this
  have X : Hid (Ext w W0) := by rw [hW0.out]; exact ((Ext.alloc w (.cells zC 26)).trans (Ext.alloc _ (.cells #[.slice none 0 0, .slice none 0 0, .bool false] 47))).trans (Ext.alloc _ _)
  have BX : Hid (Blk W0 w.heap.size zC 26) := by rw [hW0.out]; exact ((Blk.new rfl _ _).alloc _).alloc _
  have BM : Hid (Blk W0 z1 #[.slice none 0 0, .slice none 0 0, .bool false] 47) := by rw [hW0.out, hz1.out]; exact (Blk.new (by simp) _ _).alloc _
  have gl : w.heap.size < g := by rw [hg.out]; omega
  have zg : z1 < g := by rw [hg.out, hz1.out]; omega
  have zl1 : w.heap.size ≤ z1 := by rw [hz1.out]; omega
  have zne : w.heap.size ≠ z1 := by rw [hz1.out]; omega
  have gW : g < W0.heap.size := CU.out.lt
  clear h
  go_enter Tryz.func30, Tryz.ntmps30
  go_wp2_with fail
  rw [← hW0.out, ← hg.out, ← hz1.out]
  clear hW0 hg hz1
  refine (cu.judgedList_m W0 W0 g 0 _ (DS.init CU.out) (by omega)).mono ?_
  rintro e w1 ⟨A1, n1, c1, A2, n2, c2, r, bo, k, f, A, n, c, Ag, ng, cg, Ac, nc, cc, d, rfl, n15, co, ls, ma, ok, cu, tc⟩
  obtain ⟨w2, hw2⟩ : ∃ w2, Hid (w2 = (w1.alloc (.cells #[.slice A1 n1 c1, .slice A2 n2 c2, .int .i64 r, .int .i64 bo, .int .i64 k, .int .i64 f] 26)).alloc (.cells #[.slice Ag ng cg, .slice Ac nc cc] 30)) := ⟨_, rfl⟩
  obtain ⟨b, hb⟩ : ∃ b, Hid (b = w1.heap.size) := ⟨_, rfl⟩
  obtain ⟨b2, hb2⟩ : ∃ b, Hid (b = w1.heap.size + 1) := ⟨_, rfl⟩
  have SC : Hid (JK W0 g (0 + 12000) w2 b b2 w.heap.size z1 #[.slice none 0 0, .slice none 0 0, .bool false] 47 A1 n1 c1 A2 n2 c2 r bo k f A n c Ag ng cg Ac nc cc d) := by
    have x2 : Ext w1 w2 := by rw [hw2.out]; exact (Ext.alloc w1 _).trans (Ext.alloc _ _)
    have hs := tc.size
    have k1 : Blk w2 b #[.slice A1 n1 c1, .slice A2 n2 c2, .int .i64 r, .int .i64 bo, .int .i64 k, .int .i64 f] 26 := by rw [hw2.out, hb.out]; exact (Blk.new rfl _ _).alloc _
    have k2 : Blk w2 b2 #[.slice Ag ng cg, .slice Ac nc cc] 30 := by rw [hw2.out, hb2.out]; exact Blk.new (by simp) _ _
    exact ⟨cu.ext x2, k1, k2, (BX.out.tchF tc (by simp; omega)).ext x2, (BM.out.tchF tc (by simp; omega)).ext x2, gW, gl, zg, by rw [hb.out]; omega, by rw [hb2.out]; omega, co.since (Since.of_ext x2), ls.since (Since.of_ext x2), ma.ext x2, ok, tc.stepX x2⟩
  clear co ls ma cu tc CU BX BM
  go_upto_region 3 with fail
  rw [← hw2.out, ← hb2.out, ← hb.out]
  clear hw2 hb2 hb
  have nz : (n : Int) ≤ 15 := by omega
  have bl := SC.out.k1.lt
  have bl2 := SC.out.k2.lt
  have gb := SC.out.gb
  have gb2 := SC.out.gb2
  have u1 : b ≠ w.heap.size := by omega
  have u2 : b2 ≠ w.heap.size := by omega
  have u3 : b ≠ z1 := by omega
  have u4 : b2 ≠ z1 := by omega
  have v3 := Ne.symm u3; have v4 := Ne.symm u4; have zs := Ne.symm zne
  have v1 := Ne.symm u1; have v2 := Ne.symm u2
  go_cut [23] (fun s23 wx => ∃ B, s23 = .bool B ∧ (B = false → 0 < n) ∧ JK W0 g (0 + 12000 + 2) wx b b2 w.heap.size z1 #[.slice none 0 0, .slice none 0 0, .bool false] 47 A1 n1 c1 A2 n2 c2 r bo k f A n c Ag ng cg Ac nc cc d)
  case first =>
    by_cases h0 : n = 0
    · subst h0
      go_wp2
      go_meet
      exact ⟨true, rfl, by simp, SC.out.more (by omega)⟩
    · have hz : ((n : Int) == 0) = false := by simp; omega
      go_wp2_with fail
      refine (cu.one_m _ g _ _ SC.out.cu (by omega) (by unfold InR; omega)).mono ?_
      rintro e wa ⟨q, rfl, ca, ka⟩
      go_wp2
      go_meet
      exact ⟨q, rfl, fun _ => by omega, SC.out.step (Ext.refl _) ka ca⟩
  case rest =>
    obtain ⟨B, rfl, hB, st⟩ := hcut
    clear SC
    have SC := hide st
    clear st
    have q7 := SC.out.k1.cell; have q9 := SC.out.k2.cell; have q0 := SC.out.k3.cell; have f0 := SC.out.k3.free; have q1 := SC.out.k4.cell; have f1 := SC.out.k4.free; have bl := SC.out.k1.lt; have bl2 := SC.out.k2.lt; have bl3 := SC.out.k3.lt; have bl4 := SC.out.k4.lt
    cases B
    · have h0 := hB rfl
      clear hB
      skip
      obtain ⟨xr, mr, hA, hlo, hxw⟩ := SC.out.ls.far h0
      subst hA
      have cap1 := SC.out.ls.caps.1
      have cap2 := SC.out.ls.caps.2
      have nx0 : xr ≠ w.heap.size := by omega
      have nx1 : w.heap.size ≠ xr := Ne.symm nx0
      have nx2 : xr ≠ z1 := by omega
      have nx3 : z1 ≠ xr := Ne.symm nx2
      go_wp2_with fail
      go_region_law (go_simp; go_at_call 48; refine (cu.pick_m _ g _ n (SC.out.cu.ext (by first | with_reducible exact Ext.refl _ | with_reducible exact Ext.drew _)) (by omega) (by unfold InR; omega)).mono ?_; rintro e w7 ⟨ri, rfl, ri0, ri1, -, c7, k7⟩; obtain ⟨i, rfl⟩ : ∃ i : Nat, ri = i := ⟨ri.toNat, by omega⟩; have hi : (i : Int) < n := ri1 (by omega); have SC := hide (SC.out.step (by first | with_reducible exact Ext.refl _ | with_reducible exact Ext.drew _) k7 c7); obtain ⟨B1, k1, d1, B2, k2, d2, late, e0, e1, e2, hit⟩ := SC.out.ls.pick hlo (show i < n by omega); have HI := hide hit; have q7 := SC.out.k1.cell; have q9 := SC.out.k2.cell; have q0 := SC.out.k3.cell; have f0 := SC.out.k3.free; have q1 := SC.out.k4.cell; have f1 := SC.out.k4.free; have bl := SC.out.k1.lt; have bl2 := SC.out.k2.lt; have bl3 := SC.out.k3.lt; have bl4 := SC.out.k4.lt; clear c7 k7 ri1 hit)
      all_goals
        go_wp2
        refine bodyPost_ret (v := .tuple #[.agg #[.slice A1 n1 c1, .slice A2 n2 c2, .int .i64 r, .int .i64 bo, .int .i64 k, .int .i64 f], .agg #[.slice B1 k1 d1, .slice B2 k2 d2, .bool late]]) (by simp [results, Tryz.results30, go_sem, q0, q1]) rfl ?_
        have ho := SC.out.out3 w (Nat.le_refl _) zl1 X.out HI.out (.slice A1 n1 c1) (.slice A2 n2 c2) (.int .i64 r) (.int .i64 bo) (.int .i64 k) (.int .i64 f) (.slice B1 k1 d1) (.slice B2 k2 d2) (.bool late)
        exact ⟨A1, n1, c1, A2, n2, c2, r, bo, k, f, B1, k1, d1, B2, k2, d2, late, rfl, ho.1, ho.2.1, ho.2.2⟩
    · skip
      go_wp2_with fail
      go_region_law (go_simp; go_at_call 68; refine (cu.anyItem_m _ _ g _ _ (DS.init (SC.out.cu.ext (by first | with_reducible exact Ext.refl _ | with_reducible exact Ext.drew _))) (by omega)).mono ?_; rintro e w7 ⟨T3, B1, k1, d1, B2, k2, d2, late, rfl, -, -, f3, t1, t2⟩; have HI := hide ((f3.ds.ts.itemR t1 t2 late).less (show W0.heap.size ≤ _ from SC.out.tch.size)); have SC := hide (SC.out.step (by first | with_reducible exact Ext.refl _ | with_reducible exact Ext.drew _) f3.ds.tch f3.ds.cu); have q7 := SC.out.k1.cell; have q9 := SC.out.k2.cell; have q0 := SC.out.k3.cell; have f0 := SC.out.k3.free; have q1 := SC.out.k4.cell; have f1 := SC.out.k4.free; have bl := SC.out.k1.lt; have bl2 := SC.out.k2.lt; have bl3 := SC.out.k3.lt; have bl4 := SC.out.k4.lt; clear f3 t1 t2)
      all_goals
        go_wp2
        refine bodyPost_ret (v := .tuple #[.agg #[.slice A1 n1 c1, .slice A2 n2 c2, .int .i64 r, .int .i64 bo, .int .i64 k, .int .i64 f], .agg #[.slice B1 k1 d1, .slice B2 k2 d2, .bool late]]) (by simp [results, Tryz.results30, go_sem, q0, q1]) rfl ?_
        have ho := SC.out.out3 w (Nat.le_refl _) zl1 X.out HI.out (.slice A1 n1 c1) (.slice A2 n2 c2) (.int .i64 r) (.int .i64 bo) (.int .i64 k) (.int .i64 f) (.slice B1 k1 d1) (.slice B2 k2 d2) (.bool late)
        exact ⟨A1, n1, c1, A2, n2, c2, r, bo, k, f, B1, k1, d1, B2, k2, d2, late, rfl, ho.1, ho.2.1, ho.2.2⟩
abbrev JLL (w : World) (e : Ending) (w' : World) : Prop := ∃ (A1 : Option Addr) (n1 c1 : Nat) (A2 : Option Addr) (n2 c2 : Nat) (r bo k f : Int) (A : Option Addr) (n c : Nat) (z p : Int), e = .returned (.tuple #[.agg #[.slice A1 n1 c1, .slice A2 n2 c2, .int .i64 r, .int .i64 bo, .int .i64 k, .int .i64 f], .slice A n c, .int .i64 z, .int .i64 p]) ∧ n ≤ 15 ∧ InR z ∧ InR p ∧
  CoR w.heap.size w' (.agg #[.slice A1 n1 c1, .slice A2 n2 c2, .int .i64 r, .int .i64 bo, .int .i64 k, .int .i64 f]) ∧ LsR w.heap.size w' A n c ∧ Ext w w'
set_option maxRecDepth 100000 in
set_option maxHeartbeats 20000000 in
theorem s.DrawLeastGrade_m (w : World) (a0 : Option Addr) (m0 d0 : Nat) (h : ArgB w a0 m0 d0) : Calls Tryz.prog 27 #[.slice a0 m0 d0] w fun e w' => JLL w e w' := by
  obtain ⟨W0, hW0⟩ : ∃ W0, Hid (W0 = (w.alloc (.cells zC 26)).alloc (.cells #[.slice a0 m0 d0, .int .i64 0, .int .u64 0] 66)) := ⟨_, rfl⟩
  obtain ⟨g, hg⟩ : ∃ g, Hid (g = w.heap.size + 1) := ⟨_, rfl⟩
  have CU : Hid (Cur W0 g 0) := by
    rw [hW0.out, hg.out]
    have := Cur.new (h.ext (Ext.alloc w (.cells zC 26)))
    show Cur _ _ _
    simpa using this
  have X : Hid (Ext w W0) := by rw [hW0.out]; exact (Ext.alloc w (.cells zC 26)).trans (Ext.alloc _ _)
  have BX : Hid (Blk W0 w.heap.size zC 26) := by rw [hW0.out]; exact ((Blk.new rfl _ _).alloc _)
  have gl : w.heap.size < g := by rw [hg.out]; omega
  have gW : g < W0.heap.size := CU.out.lt
  clear h
  go_enter Tryz.func27, Tryz.ntmps27
  go_wp2_with fail
  rw [← hW0.out, ← hg.out]
  clear hW0 hg
  refine (cu.judgedList_m W0 W0 g 0 _ (DS.init CU.out) (by omega)).mono ?_
  rintro e w1 ⟨A1, n1, c1, A2, n2, c2, r, bo, k, f, A, n, c, Ag, ng, cg, Ac, nc, cc, d, rfl, n15, co, ls, ma, ok, cu, tc⟩
  obtain ⟨w2, hw2⟩ : ∃ w2, Hid (w2 = (w1.alloc (.cells #[.slice A1 n1 c1, .slice A2 n2 c2, .int .i64 r, .int .i64 bo, .int .i64 k, .int .i64 f] 26)).alloc (.cells #[.slice Ag ng cg, .slice Ac nc cc] 30)) := ⟨_, rfl⟩
  obtain ⟨b, hb⟩ : ∃ b, Hid (b = w1.heap.size) := ⟨_, rfl⟩
  obtain ⟨b2, hb2⟩ : ∃ b, Hid (b = w1.heap.size + 1) := ⟨_, rfl⟩
  have SC : Hid (JK W0 g (0 + 12000) w2 b b2 w.heap.size w.heap.size zC 26 A1 n1 c1 A2 n2 c2 r bo k f A n c Ag ng cg Ac nc cc d) := by
    have x2 : Ext w1 w2 := by rw [hw2.out]; exact (Ext.alloc w1 _).trans (Ext.alloc _ _)
    have hs := tc.size
    have k1 : Blk w2 b #[.slice A1 n1 c1, .slice A2 n2 c2, .int .i64 r, .int .i64 bo, .int .i64 k, .int .i64 f] 26 := by rw [hw2.out, hb.out]; exact (Blk.new rfl _ _).alloc _
    have k2 : Blk w2 b2 #[.slice Ag ng cg, .slice Ac nc cc] 30 := by rw [hw2.out, hb2.out]; exact Blk.new (by simp) _ _
    exact ⟨cu.ext x2, k1, k2, (BX.out.tchF tc (by simp; omega)).ext x2, (BX.out.tchF tc (by simp; omega)).ext x2, gW, gl, gl, by rw [hb.out]; omega, by rw [hb2.out]; omega, co.since (Since.of_ext x2), ls.since (Since.of_ext x2), ma.ext x2, ok, tc.stepX x2⟩
  clear co ls ma cu tc CU BX
  go_upto_region 3 with fail
  rw [← hw2.out, ← hb2.out, ← hb.out]
  clear hw2 hb2 hb
  have nz : (n : Int) ≤ 15 := by omega
  have bl := SC.out.k1.lt
  have bl2 := SC.out.k2.lt
  have gb := SC.out.gb
  have gb2 := SC.out.gb2
  have u1 : b ≠ w.heap.size := by omega
  have u2 : b2 ≠ w.heap.size := by omega
  have v1 := Ne.symm u1; have v2 := Ne.symm u2
  have q7 := SC.out.k1.cell; have q9 := SC.out.k2.cell; have q0 := SC.out.k3.cell; have f0 := SC.out.k3.free; have q1 := SC.out.k4.cell; have f1 := SC.out.k4.free; have bl := SC.out.k1.lt; have bl2 := SC.out.k2.lt; have bl3 := SC.out.k3.lt; have bl4 := SC.out.k4.lt
  clear f0 f1 bl3 bl4 q1
  go_wp2_with fail
  refine (cu.pick_m _ g _ _ SC.out.cu (by omega) (by unfold InR; omega)).mono ?_
  rintro e w3 ⟨y1, rfl, y10, y11, -, c7, k7⟩
  have y12 := y11 (by omega)
  have SD := hide (SC.out.step (Ext.refl _) k7 c7)
  clear c7 k7 y11 SC
  have SC := SD
  clear SD
  go_wp2_with fail
  refine (cu.pick_m _ g _ _ SC.out.cu (by omega) (by first | exact inr_wrap _ | (unfold InR; omega))).mono ?_
  rintro e w4 ⟨y2, rfl, y20, -, -, c7, k7⟩
  have SD := hide (SC.out.step (Ext.refl _) k7 c7)
  clear c7 k7 SC
  have SC := SD
  clear SD
  go_wp2_with fail
  refine (cu.pick_m _ g _ _ SC.out.cu (by omega) (by first | exact inr_wrap _ | (unfold InR; omega))).mono ?_
  rintro e w5 ⟨y3, rfl, y30, -, -, c7, k7⟩
  have SD := hide (SC.out.step (Ext.refl _) k7 c7)
  clear c7 k7 SC
  have SC := SD
  clear SD
  go_upto_region 4 with fail
  generalize hz : wrap64 (_ - _) = z
  have HZ : Hid (InR z) := by rw [← hz]; show InR _; unfold InR; generalize y2 - wrap64 (y3.tdiv 19) = q; unfold wrap64; omega
  clear hz y10 y12 y20 y30
  skip
  obtain ⟨w6, hw6⟩ : ∃ w6, Hid (w6 = w5.alloc (.cells #[.int .i64 0, .int .i64 100, .int .i64 500, .int .i64 1000, .int .i64 3000, .int .i64 100000, .int .i64 100001, .int .i64 (-1)] 3)) := ⟨_, rfl⟩
  obtain ⟨b6, hb6⟩ : ∃ b, Hid (b = w5.heap.size) := ⟨_, rfl⟩
  have SD := hide (SC.out.ext (show Ext w5 w6 by rw [hw6.out]; exact Ext.alloc w5 _))
  have BL : Hid (Blk w6 b6 #[.int .i64 0, .int .i64 100, .int .i64 500, .int .i64 1000, .int .i64 3000, .int .i64 100000, .int .i64 100001, .int .i64 (-1)] 3) := by rw [hw6.out, hb6.out]; exact Blk.new rfl _ _
  have b6g : b6 ≠ g := by have := SC.out.tch.size; have := SC.out.gW; rw [hb6.out]; omega
  clear SC
  have SC := SD
  clear SD
  go_wp2_with fail
  rw [← hw6.out, ← hb6.out]
  clear hw6 hb6
  refine (cu.among_m w6 g _ b6 _ [0, 100, 500, 1000, 3000, 100000, 100001, -1] SC.out.cu (by omega) BL.out b6g (by decide) (by decide)).mono ?_
  rintro e w7 ⟨p0, rfl, hp0, c7, k7⟩
  have HP : Hid (InR p0) := by
    show InR p0
    unfold InR
    simp at hp0
    omega
  have SD := hide (SC.out.step (Ext.refl _) k7 c7)
  clear c7 k7 SC BL b6g hp0
  have SC := SD
  clear SD
  obtain ⟨dd, xs, dj, hxn⟩ := djS_of SC.out.co SC.out.ls SC.out.ma SC.out.ok
  have DJ := hide dj
  have HN := hide hxn
  clear dj hxn
  obtain ⟨J, hJ⟩ : ∃ J, Hid (hasJ dd xs d z = J) := ⟨_, rfl⟩
  have EH := hide (DJ.out.now.has HN.out HZ.out hJ.out)
  have q7 := SC.out.k1.cell; have q9 := SC.out.k2.cell; have q0 := SC.out.k3.cell; have f0 := SC.out.k3.free; have q1 := SC.out.k4.cell; have f1 := SC.out.k4.free; have bl := SC.out.k1.lt; have bl2 := SC.out.k2.lt; have bl3 := SC.out.k3.lt; have bl4 := SC.out.k4.lt
  go_upto_region 5 with fail
  go_cut [44] (fun s44 wx => ∃ B, s44 = .bool B ∧ (B = true → J = true) ∧ JK W0 g (0 + 12000 + 2 + 2 + 2 + 2 + 2) wx b b2 w.heap.size w.heap.size zC 26 A1 n1 c1 A2 n2 c2 r bo k f A n c Ag ng cg Ac nc cc d ∧ DjS W0.heap.size wx (.agg #[.slice A1 n1 c1, .slice A2 n2 c2, .int .i64 r, .int .i64 bo, .int .i64 k, .int .i64 f]) A c (.agg #[.slice Ag ng cg, .slice Ac nc cc]) dd xs d)
  case first =>
    go_wp2_with fail
    refine EH.out.mono ?_
    rintro e w8 ⟨rfl, x8⟩
    have SD := hide (SC.out.ext x8)
    have DK := hide (DJ.out.since (Since.of_ext x8))
    clear EH hJ
    cases J
    · go_wp2
      go_meet
      exact ⟨false, rfl, by simp, SD.out.more (by omega), DK.out⟩
    · go_wp2_with fail
      refine (cu.one_m _ g _ _ SD.out.cu (by omega) (by unfold InR; omega)).mono ?_
      rintro e w9 ⟨q, rfl, c7, k7⟩
      go_wp2
      go_meet
      exact ⟨q, rfl, by simp, SD.out.step (Ext.refl _) k7 c7, DK.out.since (SD.out.sn (Ext.refl _) k7)⟩
  case rest =>
    obtain ⟨B, rfl, hB, st, dk⟩ := hcut
    clear SC DJ EH q7 q9 q0 f0 q1 f1 bl bl2 bl3 bl4
    have SC := hide st
    have DJ := hide dk
    clear st dk
    go_upto_if 44 with fail
    go_cut [11] (fun s11 wx => ∃ p, s11 = .int .i64 p ∧ InR p ∧ ∃ M, JK W0 g M wx b b2 w.heap.size w.heap.size zC 26 A1 n1 c1 A2 n2 c2 r bo k f A n c Ag ng cg Ac nc cc d)
    case first =>
      cases B
      · go_wp2
        go_meet
        exact ⟨p0, rfl, HP.out, _, SC.out⟩
      · obtain rfl : J = true := hB rfl
        obtain ⟨jo, kk, hk, hkx⟩ := hasJ_ok hJ.out
        subst hk
        have ES := hide (DJ.out.now.score HN.out jo hkx)
        have sb := scoreF_bd jo hkx
        have sb1 := sb.1; have sb2 := sb.2
        generalize scoreF dd xs d kk = sc at *
        have q7 := SC.out.k1.cell; have q9 := SC.out.k2.cell; have q0 := SC.out.k3.cell; have f0 := SC.out.k3.free; have q1 := SC.out.k4.cell; have f1 := SC.out.k4.free; have bl := SC.out.k1.lt; have bl2 := SC.out.k2.lt; have bl3 := SC.out.k3.lt; have bl4 := SC.out.k4.lt
        clear sb
        go_wp2_with fail
        refine ES.out.mono ?_
        rintro e w8 ⟨rfl, x8⟩
        have SD := hide (SC.out.ext x8)
        clear ES q7 q9 q0 f0 q1 f1 bl bl2 bl3 bl4
        go_wp2_with fail
        refine (cu.pick_m _ g _ _ SD.out.cu (by omega) (by unfold InR; omega)).mono ?_
        rintro e w9 ⟨y5, rfl, y50, y51, -, c7, k7⟩
        have y52 := y51 (by omega)
        have SE := hide (SD.out.step (Ext.refl _) k7 c7)
        clear c7 k7 y51
        go_wp2_with fail
        refine (most_b _ _ _ (by omega) (by omega)).mono ?_
        rintro e wm ⟨pq, rfl, hpq, hm⟩
        subst hm
        have HPQ := hide hpq
        clear hpq
        go_wp2
        go_meet
        exact ⟨pq, rfl, HPQ.out, _, SE.out⟩
    case rest =>
      obtain ⟨p, rfl, hp, M2, st⟩ := hcut
      clear SC
      have SC := hide st
      have HP2 := hide hp
      clear st hp
      have q7 := SC.out.k1.cell; have q9 := SC.out.k2.cell; have q0 := SC.out.k3.cell; have f0 := SC.out.k3.free; have q1 := SC.out.k4.cell; have f1 := SC.out.k4.free; have bl := SC.out.k1.lt; have bl2 := SC.out.k2.lt; have bl3 := SC.out.k3.lt; have bl4 := SC.out.k4.lt
      go_wp2
      refine bodyPost_ret (v := .tuple #[.agg #[.slice A1 n1 c1, .slice A2 n2 c2, .int .i64 r, .int .i64 bo, .int .i64 k, .int .i64 f], .slice A n c, .int .i64 z, .int .i64 p]) (by simp [results, Tryz.results27, go_sem, q0]) rfl ?_
      have ho := SC.out.out1 w (Nat.le_refl _) X.out (.slice A1 n1 c1) (.slice A2 n2 c2) (.int .i64 r) (.int .i64 bo) (.int .i64 k) (.int .i64 f)
      exact ⟨A1, n1, c1, A2, n2, c2, r, bo, k, f, A, n, c, z, p, rfl, n15, HZ.out, HP2.out, ho.1, ho.2.1, ho.2.2⟩
end Go.Proofs.YtaoeomgehpdedaaGreat
