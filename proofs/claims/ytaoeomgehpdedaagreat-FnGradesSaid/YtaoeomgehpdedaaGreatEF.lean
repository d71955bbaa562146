/- Draws of codes: valid ones, in typed memory. -/
import Derived.Test.YtaoeomgehpdedaaGreatEE
namespace Go.Proofs.YtaoeomgehpdedaaGreat
open Go.RowKit Go.Sort
set_option linter.unusedVariables false

/-- The names of elements, in typed memory. -/
theorem cu.namesT {w0 w : World} {g M : Nat} {T : Typ} (h : DS w0 g 64 M T w) :
    Calls Tryz.prog 113 #[] w fun e w' => ∃ (T' : Typ) (x : Nat), e = .returned (.slice (some ⟨x, 0, none⟩) 24 24) ∧ DS w0 g 64 M T' w' ∧ Stp g T w T' w' ∧ ST T' [.str] 9 (some ⟨x, 0, none⟩) 24 24 := by
  refine (cu.names_m w).mono ?_
  rintro e w' ⟨x, vs, rfl, hb, hl, hv, hx, hk⟩
  have d := h.ext hk
  have hz : T x = none := h.ts.none_of hx
  obtain ⟨t2, l2⟩ := d.ts.add (ks := [.str]) (m := 24) (c := 24) hz (by have := h.size; omega) hb (by decide) (by decide) (by decide) (by simpa using hl) (fun i hi j k hk => by
    obtain rfl : j = 0 := by have := (List.getElem?_eq_some_iff.1 hk).1; simp at this; omega
    simp at hk
    subst hk
    have hi2 : i < vs.length := by omega
    exact ⟨vs[i], by simp [hi2], hv _ (List.getElem_mem hi2)⟩)
  exact ⟨_, x, rfl, ⟨t2, d.cu, d.tch, d.hg⟩, ⟨l2.less hx, KT.of_ext hk⟩, .inr ⟨x, 24, rfl, Typ.put_same _ _ _, Nat.le_refl _⟩⟩
theorem vstr {T : Typ} {v : Value} (h : VT T .str v) : ∃ y, v = .string (bs y) ∧ y.length ≤ 16 := h
theorem ST.blk {T : Typ} {ks : List VK} {e : TypeId} {x n c : Nat} (h : ST T ks e (some ⟨x, 0, none⟩) n c) (hn : 0 < n) : T x ≠ none := by
  obtain ⟨b, m, e1, e2, _⟩ := h.pos hn
  simp at e1
  subst e1
  rw [e2]; simp
/-- A text read from a typed row whose address is known. -/
theorem DS.str {w0 w : World} {g L M x n c i : Nat} {T : Typ} {e : TypeId} (h : DS w0 g L M T w) (s : ST T [.str] e (some ⟨x, 0, none⟩) n c) (hi : i < n) : ∃ y, w.cell? ⟨x, i, none⟩ = some (.string (bs y)) ∧ y.length ≤ 16 := by
  obtain ⟨b, v, e1, h1, h2, _⟩ := h.ts.load s hi (show [VK.str][0]? = some .str from rfl)
  simp at e1
  subst e1
  obtain ⟨y, rfl, hy⟩ := vstr h2
  exact ⟨y, by simpa using h1, hy⟩

/-- A code under way in box b; the result's box is the first new block. -/
structure CoU (w0 ws : World) (g M : Nat) (Ts T : Typ) (w : World) (b : Nat) (A1 : Option Addr) (n1 c1 : Nat) (A2 : Option Addr) (n2 c2 : Nat) (r bo k f : Int) : Prop where
  df : DF w0 ws g 64 M Ts T w
  b0 : Bx g T w ws.heap.size zC 26
  bb : Bx g T w b #[.slice A1 n1 c1, .slice A2 n2 c2, .int .i64 r, .int .i64 bo, .int .i64 k, .int .i64 f] 26
  s1 : ST T ksEl 84 A1 n1 c1
  s2 : ST T [.int] 3 A2 n2 c2
  hb : ws.heap.size < b
section
variable {w0 ws w w' : World} {g M M' b : Nat} {Ts T T' : Typ} {A1 : Option Addr} {n1 c1 : Nat} {A2 : Option Addr} {n2 c2 : Nat} {r bo k f : Int}
theorem CoU.stp (h : CoU w0 ws g M Ts T w b A1 n1 c1 A2 n2 c2 r bo k f) (s : Stp g T w T' w') (d : DS w0 g 64 M' T' w') : CoU w0 ws g M' Ts T' w' b A1 n1 c1 A2 n2 c2 r bo k f :=
  ⟨h.df.stp s d, h.b0.stp s, h.bb.stp s, h.s1.mono s.le, h.s2.mono s.le, h.hb⟩
theorem CoU.ext (h : CoU w0 ws g M Ts T w b A1 n1 c1 A2 n2 c2 r bo k f) (x : Ext w w') : CoU w0 ws g M Ts T w' b A1 n1 c1 A2 n2 c2 r bo k f := h.stp (Stp.of_ext x) (h.df.ds.ext x)
theorem CoU.curs (h : CoU w0 ws g M Ts T w b A1 n1 c1 A2 n2 c2 r bo k f) (x : TchF [g] w w') (c : Cur w' g M') : CoU w0 ws g M' Ts T w' b A1 n1 c1 A2 n2 c2 r bo k f := h.stp (Stp.of_cur x) (h.df.ds.curs x c)
theorem CoU.step {wx : World} (h : CoU w0 ws g M Ts T w b A1 n1 c1 A2 n2 c2 r bo k f) (y : Ext w wx) (x : TchF [g] wx w') (c : Cur w' g M') : CoU w0 ws g M' Ts T w' b A1 n1 c1 A2 n2 c2 r bo k f := (h.ext y).curs x c
theorem CoU.more (h : CoU w0 ws g M Ts T w b A1 n1 c1 A2 n2 c2 r bo k f) (hm : M ≤ M') : CoU w0 ws g M' Ts T w b A1 n1 c1 A2 n2 c2 r bo k f := ⟨h.df.more hm, h.b0, h.bb, h.s1, h.s2, h.hb⟩
theorem CoU.cE (h : CoU w0 ws g M Ts T w b A1 n1 c1 A2 n2 c2 r bo k f) : w.cell? ⟨b, 0, none⟩ = some (.slice A1 n1 c1) := h.bb.cell 0
theorem CoU.cL (h : CoU w0 ws g M Ts T w b A1 n1 c1 A2 n2 c2 r bo k f) : w.cell? ⟨b, 1, none⟩ = some (.slice A2 n2 c2) := h.bb.cell 1
theorem CoU.free (h : CoU w0 ws g M Ts T w b A1 n1 c1 A2 n2 c2 r bo k f) (j : Nat) : w.frozen? ⟨b, j, none⟩ = false := h.bb.free j
theorem CoU.put (h : CoU w0 ws g M Ts T w b A1 n1 c1 A2 n2 c2 r bo k f) (j : Nat) (u : Value) : DF w0 ws g 64 M Ts T (w.setCell ⟨b, j, none⟩ u) ∧ Bx g T (w.setCell ⟨b, j, none⟩ u) ws.heap.size zC 26 := by
  have hb := h.hb
  exact ⟨h.df.bx h.bb (by omega) _ _, h.b0.far (by show ws.heap.size ≠ b; omega) _⟩
theorem CoU.setE {A3 : Option Addr} {n3 c3 : Nat} (h : CoU w0 ws g M Ts T w b A1 n1 c1 A2 n2 c2 r bo k f) (s : ST T ksEl 84 A3 n3 c3) : CoU w0 ws g M Ts T (w.setCell ⟨b, 0, none⟩ (.slice A3 n3 c3)) b A3 n3 c3 A2 n2 c2 r bo k f :=
  ⟨(h.put 0 _).1, (h.put 0 _).2, h.bb.set 0 _, s, h.s2, h.hb⟩
theorem CoU.setL {A3 : Option Addr} {n3 c3 : Nat} (h : CoU w0 ws g M Ts T w b A1 n1 c1 A2 n2 c2 r bo k f) (s : ST T [.int] 3 A3 n3 c3) : CoU w0 ws g M Ts T (w.setCell ⟨b, 1, none⟩ (.slice A3 n3 c3)) b A1 n1 c1 A3 n3 c3 r bo k f :=
  ⟨(h.put 1 _).1, (h.put 1 _).2, h.bb.set 1 _, h.s1, s, h.hb⟩
/-- An element more. -/
theorem CoU.appE {A3 : Option Addr} {n3 c3 : Nat} (h : CoU w0 ws g M Ts T w b A1 n1 c1 A2 n2 c2 r bo k f) (a : ApT w0.heap.size 64 T ksEl 84 w n3 w' A3 c3 T') :
    CoU w0 ws g M Ts T' w' b A1 n1 c1 A2 n2 c2 r bo k f ∧ CoU w0 ws g M Ts T' (w'.setCell ⟨b, 0, none⟩ (.slice A3 n3 c3)) b A3 n3 c3 A2 n2 c2 r bo k f ∧ TLe T T' w.heap.size := by
  obtain ⟨d, s, t⟩ := h.df.ds.app a
  have h2 := h.stp s d
  exact ⟨h2, h2.setE t, s.le⟩
theorem CoU.appL {A3 : Option Addr} {n3 c3 : Nat} (h : CoU w0 ws g M Ts T w b A1 n1 c1 A2 n2 c2 r bo k f) (a : ApT w0.heap.size 64 T [.int] 3 w n3 w' A3 c3 T') :
    CoU w0 ws g M Ts T' w' b A1 n1 c1 A2 n2 c2 r bo k f ∧ CoU w0 ws g M Ts T' (w'.setCell ⟨b, 1, none⟩ (.slice A3 n3 c3)) b A1 n1 c1 A3 n3 c3 r bo k f ∧ TLe T T' w.heap.size := by
  obtain ⟨d, s, t⟩ := h.df.ds.app a
  have h2 := h.stp s d
  exact ⟨h2, h2.setL t, s.le⟩
theorem DF.put6 {x : Nat} {cs : Array Value} {t : TypeId} (h : DF w0 ws g 64 M Ts T w) (hb : Bx g T w x cs t) (hx : ws.heap.size ≤ x) (u0 u1 u2 u3 u4 u5 : Value) :
    DF w0 ws g 64 M Ts T ((((((w.setCell ⟨x, 0, none⟩ u0).setCell ⟨x, 1, none⟩ u1).setCell ⟨x, 2, none⟩ u2).setCell ⟨x, 3, none⟩ u3).setCell ⟨x, 4, none⟩ u4).setCell ⟨x, 5, none⟩ u5) :=
  (((((h.box hx hb.hT 0 u0).box hx hb.hT 1 u1).box hx hb.hT 2 u2).box hx hb.hT 3 u3).box hx hb.hT 4 u4).box hx hb.hT 5 u5
end
theorem srcA {w : World} {H : Nat} {cs : Array Value} {t : TypeId} (hH : w.heap.size = H) : ∀ j v, cs.toList[j]? = some v → (w.alloc (.cells cs t)).cell? ⟨H, 0 + j, none⟩ = some v := by
  subst hH
  intro j v h
  rw [Nat.zero_add, (Blk.new rfl cs t).cell j]
  simpa using h
/-- An append of one element that lies in a literal just made. -/
theorem step_append_A {P : Program} {t e te : TypeId} {bytes : Nat} {z : Value} {lo L : Nat} {T : Typ} {w1 : World} {ks : List VK} {A : Option Addr} {n c d H : Nat} {cs : Array Value} {ops : Array Oper} {o : Oper} {a : Act} {Q : Exit → Act → World → Prop} {KK : Act → World → Prop} {G : Prop} (hgd : o.guard = none) (s y : Operand)
    (hop : o.op = .call { callee := .builtin .append, args := #[s, y], argTypes := #[t, t] }) (E : ElemN P t e ks.length bytes z) (hs' : a.eval s = .slice A n c) (hx' : a.eval y = .slice (some ⟨H, 0, none⟩) 1 d) (hH : w1.heap.size = H)
    (h : TS lo L T w1) (hlo : lo ≤ w1.heap.size) (hs : ST T ks e A n c) (hk : 0 < ks.length) (hel : E1 T ks cs.toList) (hL : n + 1 ≤ L) (hL2 : L ≤ 1000000000) (hb : (n + 1) * bytes ≤ 140737488355328)
    (hK : ∀ A' c' w' T', ApT lo L T ks e (w1.alloc (.cells cs te)) (n + 1) w' A' c' T' → KK (a.put o.dst (.slice A' (n + 1) c')) w') : if Region.wanted o (yielded ops a.tmps) = true then Oper.wp P o a (w1.alloc (.cells cs te)) KK Q else G :=
  step_append_T hgd s y hop E hs' hx' (h.ext (Ext.alloc _ _)) (by have : (w1.alloc (.cells cs te)).heap.size = w1.heap.size + 1 := by simp
                                                                  omega) hs hk (by rw [hel.1]; omega) (srcA hH) hel.el (by decide) hL hL2 hb hK
theorem wpList_append_A {P : Program} {t e te : TypeId} {bytes : Nat} {z : Value} {lo L : Nat} {T : Typ} {w1 : World} {ks : List VK} {A : Option Addr} {n c d H : Nat} {cs : Array Value} {ops : Array Oper} {rest : List Oper} {o : Oper} {a : Act} {Q : Exit → Act → World → Prop} (hgd : o.guard = none) (s y : Operand)
    (hop : o.op = .call { callee := .builtin .append, args := #[s, y], argTypes := #[t, t] }) (E : ElemN P t e ks.length bytes z) (hs' : a.eval s = .slice A n c) (hx' : a.eval y = .slice (some ⟨H, 0, none⟩) 1 d) (hH : w1.heap.size = H)
    (h : TS lo L T w1) (hlo : lo ≤ w1.heap.size) (hs : ST T ks e A n c) (hk : 0 < ks.length) (hel : E1 T ks cs.toList) (hL : n + 1 ≤ L) (hL2 : L ≤ 1000000000) (hb : (n + 1) * bytes ≤ 140737488355328)
    (hK : ∀ A' c' w' T', ApT lo L T ks e (w1.alloc (.cells cs te)) (n + 1) w' A' c' T' → wpList P ops Q rest (a.put o.dst (.slice A' (n + 1) c')) w') : wpList P ops Q (o :: rest) a (w1.alloc (.cells cs te)) :=
  wpList_append_T hgd s y hop E hs' hx' (h.ext (Ext.alloc _ _)) (by have : (w1.alloc (.cells cs te)).heap.size = w1.heap.size + 1 := by simp
                                                                    omega) hs hk (by rw [hel.1]; omega) (srcA hH) hel.el (by decide) hL hL2 hb hK
theorem E1.el4 {T : Typ} {y : List UInt8} (hy : y.length ≤ 16) (a b c : Int) : E1 T ksEl [Value.string (bs y), .int .i64 a, .int .i64 b, .int .i64 c] :=
  E1.cons (k := .str) (isStr_of hy) (E1.cons (k := .int) ⟨a, rfl⟩ (E1.cons (k := .int) ⟨b, rfl⟩ (E1.one (k := .int) ⟨c, rfl⟩)))
theorem cu.amongC {w0 w : World} {g M : Nat} {T : Typ} (h : DS w0 g 64 M T w) (hM : M ≤ 4611686018427000000) (zs : List Int) (hz : 1 ≤ zs.length) (hz2 : zs.length ≤ 1048576) {wx : World} {x : Nat} {cs : Array Value} (hx : Ext w wx) (hb : Blk wx x cs 3) (hcs : cs = (zs.map (Value.int .i64)).toArray) (hxg : x ≠ g) (c : Nat) :
    Calls Tryz.prog 64 #[.pointer (some ⟨g, 0, none⟩), .slice (some ⟨x, 0, none⟩) zs.length c] wx fun e w' => ∃ r, e = .returned (.int .i64 r) ∧ r ∈ zs ∧ Cur w' g (M + 2) ∧ TchF [g] wx w' := by
  subst hcs
  exact cu.amongT h hM zs hz hz2 hx hb hxg c
theorem Ext.ad {w : World} {o : Obj} : Ext w (w.alloc o).drew := (Ext.alloc w o).trans (Ext.drew _)
theorem Blk.newD {w : World} {H : Nat} (hH : w.heap.size = H) (cs : Array Value) (t : TypeId) : Blk (w.alloc (.cells cs t)).drew H cs t := (Blk.new hH cs t).ext (Ext.drew _)
theorem src4 (w : World) (a b c d : Value) (t : TypeId) : ∀ j v, [a, b, c, d][j]? = some v → (w.alloc (.cells #[a, b, c, d] t)).cell? ⟨w.heap.size, 0 + j, none⟩ = some v := by
  intro j v h
  match j, h with
  | 0, h => simp at h; subst h; simp [World.cell?_alloc_at]
  | 1, h => simp at h; subst h; simp [World.cell?_alloc_at]
  | 2, h => simp at h; subst h; simp [World.cell?_alloc_at]
  | 3, h => simp at h; subst h; simp [World.cell?_alloc_at]
  | j + 4, h => simp at h
theorem el4 {T : Typ} {y : List UInt8} (hy : y.length ≤ 16) (a b c : Int) : EL T ksEl 1 (fun q => [Value.string (bs y), .int .i64 a, .int .i64 b, .int .i64 c][q]?) :=
  (E1.cons (k := .str) (isStr_of hy) (E1.cons (k := .int) ⟨a, rfl⟩ (E1.cons (k := .int) ⟨b, rfl⟩ (E1.one (k := .int) ⟨c, rfl⟩)))).el

set_option maxRecDepth 100000 in
set_option maxHeartbeats 40000000 in
theorem cu.pointsT (w0 w : World) (g M : Nat) (T : Typ) (h : DS w0 g 64 M T w) (hM : M ≤ 4611686018410000000) :
    Calls Tryz.prog 108 #[.pointer (some ⟨g, 0, none⟩)] w fun e w' => ∃ (T' : Typ) (A1 : Option Addr) (n1 c1 : Nat) (A2 : Option Addr) (c2 : Nat) (r bo k f : Int), e = .returned (.agg #[.slice A1 n1 c1, .slice A2 5 c2, .int .i64 r, .int .i64 bo, .int .i64 k, .int .i64 f]) ∧ 1 ≤ n1 ∧ n1 ≤ 24 ∧ DF w0 w g 64 (M + 1000) T T' w' ∧ ST T' ksEl 84 A1 n1 c1 ∧ ST T' [.int] 3 A2 5 c2 := by
  have hg := h.cg
  have D0 := hide ((DF.start h).ext (Ext.alloc w (.cells zC 26)))
  have B0 := hide (Bx.new h zC 26)
  clear h
  go_enter Tryz.func108, Tryz.ntmps108
  go_wp2_with fail
  refine (cu.pick_m _ g M 3 D0.out.ds.cu (by omega) (by unfold InR; omega)).mono ?_
  rintro e w1 ⟨q1, rfl, r0, r1, -, c1, k1⟩
  have D1 := hide (D0.out.curs k1 c1)
  have B1 := hide (B0.out.curs k1)
  have r2 := r1 (by omega)
  clear c1 k1 r1 D0 B0
  go_wp2_with fail
  refine (cu.amongT D1.out.ds (by omega) [0, 10, 20] (by decide) (by decide) (Ext.alloc w1 (.cells #[.int .i64 0, .int .i64 10, .int .i64 20] 3)) (Blk.new rfl _ _) (by have := D1.out.ds.cg; omega) _).mono ?_
  rintro e w2 ⟨q2, rfl, -, c2, k2⟩
  have D2 := hide ((D1.out.ext (Ext.alloc w1 (.cells #[.int .i64 0, .int .i64 10, .int .i64 20] 3))).curs k2 c2)
  have B2 := hide ((B1.out.ext (Ext.alloc w1 (.cells #[.int .i64 0, .int .i64 10, .int .i64 20] 3))).curs k2)
  clear c2 k2 D1 B1
  go_wp2_with fail
  refine (cu.amongT D2.out.ds (by omega) [50, 70, 80, 100] (by decide) (by decide) (Ext.alloc w2 (.cells #[.int .i64 50, .int .i64 70, .int .i64 80, .int .i64 100] 3)) (Blk.new rfl _ _) (by have := D2.out.ds.cg; omega) _).mono ?_
  rintro e w3 ⟨q3, rfl, -, c3, k3⟩
  have D3 := hide ((D2.out.ext (Ext.alloc w2 (.cells #[.int .i64 50, .int .i64 70, .int .i64 80, .int .i64 100] 3))).curs k3 c3)
  have B3 := hide ((B2.out.ext (Ext.alloc w2 (.cells #[.int .i64 50, .int .i64 70, .int .i64 80, .int .i64 100] 3))).curs k3)
  clear c3 k3 D2 B2
  go_wp2_with fail
  refine (cu.amongT D3.out.ds (by omega) [0, 100, 500] (by decide) (by decide) (Ext.alloc w3 (.cells #[.int .i64 0, .int .i64 100, .int .i64 500] 3)) (Blk.new rfl _ _) (by have := D3.out.ds.cg; omega) _).mono ?_
  rintro e w4 ⟨q4, rfl, -, c4, k4⟩
  have D4 := hide ((D3.out.ext (Ext.alloc w3 (.cells #[.int .i64 0, .int .i64 100, .int .i64 500] 3))).curs k4 c4)
  have B4 := hide ((B3.out.ext (Ext.alloc w3 (.cells #[.int .i64 0, .int .i64 100, .int .i64 500] 3))).curs k4)
  clear c4 k4 D3 B3
  obtain ⟨b, hb⟩ : ∃ b, Hid (w4.heap.size = b) := ⟨_, rfl⟩
  have U := hide (CoU.mk (A1 := none) (n1 := 0) (c1 := 0) (A2 := none) (n2 := 0) (c2 := 0) (D4.out.ext (Ext.alloc w4 (.cells #[.slice none 0 0, .slice none 0 0, .int .i64 (1 + q1), .int .i64 q2, .int .i64 q3, .int .i64 q4] 26))) (B4.out.ext (Ext.alloc _ _)) (Bx.newAt D4.out.ds hb.out _ _) ST.none_ ST.none_ (by have := B4.out.lt; have := hb.out; omega))
  go_wp2
  rw [hb.out]
  generalize 1 + q1 = rp at *
  clear D4 B4
  go_loopw [4] (fun s4 wr => ∃ (k : Nat) (T' : Typ) (A2 : Option Addr) (c2 : Nat), s4 = .int .i64 k ∧ k ≤ 5 ∧ CoU w0 w g (M + 8 + 2 * k) T T' wr b none 0 0 A2 k c2 rp q2 q3 q4) (fun s4 _ => 5 - (intOf s4).toNat)
  case atStart => exact ⟨0, T, none, 0, by go_num, by omega, U.out⟩
  case round =>
    clear U
    obtain ⟨k, T1, A2, c2, rfl, hk, st⟩ := hrel
    have V := hide st
    clear st
    by_cases hlt : k < 5
    · have hltz : (k : Int) < 5 := by omega
      have cA := V.out.cL
      have bl := V.out.bb.lt
      go_wp2_with fail
      go_region_law (first
        | (refine step_append_T (ks := [.int]) (by rfl) (.tmp 27) (.tmp 31) (by rfl) elemN_ints (by rfl) (by rfl) U2.out.df.ds.ts U2.out.df.ds.size U2.out.s2 (by decide) (by rfl) (src1 w5 _ _) (el1 (k := .int) ⟨q, rfl⟩) (by decide) (by omega) (by decide) (by omega) ?_; intro A3 c3 w6 T3 ap; have S3 := hide (U2.out.appL ap); have cD := S3.out.1.cL; have fD := S3.out.1.free 1; clear ap)
        | (go_simp; go_at_call 64; refine (cu.amongT V.out.df.ds (by omega) [0, 1, 2, 3, 7, 9] (by decide) (by decide) ((Ext.alloc wr (.cells #[.int .i64 0, .int .i64 1, .int .i64 2, .int .i64 3, .int .i64 7, .int .i64 9] 3)).trans (Ext.drew _)) (Blk.new rfl _ _) (by have := V.out.df.ds.cg; omega) _).mono ?_; rintro e w5 ⟨q, rfl, -, c5, k5⟩; have U1 := hide (V.out.step ((Ext.alloc wr (.cells #[.int .i64 0, .int .i64 1, .int .i64 2, .int .i64 3, .int .i64 7, .int .i64 9] 3)).trans (Ext.drew _)) k5 c5); have cB := U1.out.cL; have U2 := hide (U1.out.ext (Ext.alloc w5 (.cells #[.int .i64 q] 3))); have cC := U2.out.cL; clear c5 k5))
      all_goals
        go_wp2
        go_roundw
        case rel => exact ⟨k + 1, T3, A3, c3, by go_num, by omega, S3.out.2.1.more (by omega)⟩
        case measure => simp [intOf]; omega
    · obtain rfl : k = 5 := by omega
      go_wp2_with fail
      refine (cu.namesT V.out.df.ds).mono ?_
      rintro e w5 ⟨T2, x, rfl, d5, s5, n5⟩
      have V2 := hide (V.out.stp s5 d5)
      have N5 := hide n5
      clear d5 s5 n5 V
      go_wp2
      go_loopw [36] (fun s36 wr => ∃ (k : Nat) (T' : Typ) (A1 : Option Addr) (n1 c1 : Nat), s36 = .int .i64 k ∧ k ≤ 24 ∧ n1 ≤ k ∧ (8 ≤ k → 1 ≤ n1) ∧ CoU w0 w g (M + 18 + 8 * k) T T' wr b A1 n1 c1 A2 5 c2 rp q2 q3 q4 ∧ ST T' [.str] 9 (some ⟨x, 0, none⟩) 24 24) (fun s36 _ => 24 - (intOf s36).toNat)
      case atStart => exact ⟨0, T2, none, 0, 0, by go_num, by omega, by omega, by omega, V2.out, N5.out⟩
      case round =>
        clear V2 N5
        obtain ⟨k, T3, A1, n1, c1, rfl, hk, hn1, h81, st, n5⟩ := hrel
        have V := hide st
        have N5 := hide n5
        have H81 := hide h81
        clear st n5 h81
        by_cases hlt : k < 24
        · have hltz : (k : Int) < 24 := by omega
          obtain ⟨y, cN, hy⟩ := V.out.df.ds.str N5.out hlt
          have HY := hide hy
          clear hy
          go_upto_region 9 with fail
          go_cut [46] (fun s46 wx => ∃ B, s46 = .bool B ∧ CoU w0 w g (M + 18 + 8 * k + 2) T T3 wx b A1 n1 c1 A2 5 c2 rp q2 q3 q4 ∧ (B = false → k ≠ 7))
          case first =>
              go_wp2_with fail
              refine (cu.one_m wr g _ 3 V.out.df.ds.cu (by omega) (by unfold InR; omega)).mono ?_
              rintro e w6 ⟨r, rfl, c6, k6⟩
              have S1 := hide (V.out.curs k6 c6)
              clear c6 k6
              cases r
              · by_cases h7 : k = 7
                · subst h7
                  go_wp2
                  go_meet
                  exact ⟨true, rfl, S1.out, by simp⟩
                · have h7z : ((k : Int) == 7) = false := by simp; omega
                  go_wp2
                  go_meet
                  exact ⟨false, rfl, S1.out, fun _ => h7⟩
              · go_wp2
                go_meet
                exact ⟨true, rfl, S1.out, by simp⟩
          case rest =>
              obtain ⟨B, rfl, st, h7⟩ := hcut
              have S1 := hide st
              have H7 := hide h7
              clear st h7 V cN
              cases B
              · go_wp2
                go_roundw
                case rel => exact ⟨k + 1, T3, A1, n1, c1, by go_num, by omega, by omega, by have := H7.out rfl; have := H81.out; omega, S1.out.more (by omega), N5.out⟩
                case measure => simp [intOf]; omega
              · skip
                have cA := S1.out.cE
                have wl := S1.out.bb.lt
                go_wp2_with fail
                have SC := hide S1.out
                go_region_law (first
                  | (refine step_append_A (ks := ksEl) (by rfl) (.tmp 48) (.tmp 58) (by rfl) elemN_els (by rfl) (by rfl) rfl SC.out.df.ds.ts SC.out.df.ds.size SC.out.s1 (by decide) (E1.el4 HY.out _ _ _) (by omega) (by decide) (by omega) ?_; intro A3 c3 w3 T5 ap; have S3 := hide ((SC.out.ext (Ext.alloc _ _)).appE ap); have cD := S3.out.1.cE; have fD := S3.out.1.free 0; clear ap)
                  | (go_simp; go_at_call 48; have cg := SC.out.df.ds.cg; refine (cu.pick_m _ g _ _ (SC.out.df.ds.cu.ext (by first | with_reducible exact Ext.refl _ | with_reducible exact Ext.drew _ | with_reducible exact Ext.alloc _ _ | with_reducible exact Ext.ad)) (by omega) (by unfold InR; omega)).mono ?_; rintro e w7 ⟨q, rfl, -, -, -, c7, k7⟩; (try have LB := hide (LB.out.tchF k7 (by simp; omega))); (try have LB := hide ((Blk.new rfl _ _).tchF k7 (by simp; omega))); (try have LB := hide ((Blk.newD rfl _ _).tchF k7 (by simp; omega))); have SC := hide (SC.out.step (by first | with_reducible exact Ext.refl _ | with_reducible exact Ext.drew _ | with_reducible exact Ext.alloc _ _ | with_reducible exact Ext.ad) k7 c7); have cA := SC.out.cE; have bl := SC.out.bb.lt; clear c7 k7)
                  | (go_simp; go_at_call 64; have cg := SC.out.df.ds.cg; refine (cu.amongC SC.out.df.ds (by omega) [1, 50, 130, 420, 800, 1105, 2000] (by decide) (by decide) (by first | with_reducible exact Ext.refl _ | with_reducible exact Ext.drew _ | with_reducible exact Ext.alloc _ _ | with_reducible exact Ext.ad) (by first | with_reducible exact Blk.new rfl _ _ | with_reducible exact Blk.newD rfl _ _ | with_reducible exact LB.out) (by rfl) (by omega) _).mono ?_; rintro e w8 ⟨qc, rfl, -, c8, k8⟩; have SC := hide (SC.out.step (by first | with_reducible exact Ext.refl _ | with_reducible exact Ext.drew _ | with_reducible exact Ext.alloc _ _ | with_reducible exact Ext.ad) k8 c8); have cA := SC.out.cE; have bl := SC.out.bb.lt; clear c8 k8))
                all_goals
                  go_wp2
                  go_roundw
                  case rel => exact ⟨k + 1, T5, A3, n1 + 1, c3, by go_num, by omega, by omega, by omega, S3.out.2.1.more (by omega), N5.out.mono S3.out.2.2⟩
                  case measure => simp [intOf]; omega
        · obtain rfl : k = 24 := by omega
          have n11 := H81.out (by omega)
          go_wp2_with fail
          refine (cu.one_m wr g _ 24 V.out.df.ds.cu (by omega) (by unfold InR; omega)).mono ?_
          rintro e w6 ⟨r, rfl, c6, k6⟩
          have S1 := hide (V.out.curs k6 c6)
          clear c6 k6 V N5 H81
          cases r
          · have q0 := S1.out.b0.cell
            have f0 := S1.out.b0.free
            have q5 := S1.out.bb.cell
            go_wp2
            refine bodyPost_ret (v := .agg #[.slice A1 n1 c1, .slice A2 5 c2, .int .i64 rp, .int .i64 q2, .int .i64 q3, .int .i64 q4]) (by simp [results, Tryz.results108, go_sem, q0]) rfl ?_
            exact ⟨T3, A1, n1, c1, A2, c2, rp, q2, q3, q4, rfl, n11, by omega, (S1.out.df.more (by omega)).put6 S1.out.b0 (Nat.le_refl _) _ _ _ _ _ _, S1.out.s1, S1.out.s2⟩
          · skip
            have cA := S1.out.cE
            have fA := S1.out.free 0
            have S2 := hide (S1.out.setE (A3 := none) (n3 := 0) (c3 := 0) ST.none_)
            clear S1
            go_wp2_with fail
            refine (cu.namesT S2.out.df.ds).mono ?_
            rintro e w5 ⟨T5, x, rfl, d5, s5, n5⟩
            have V2 := hide (S2.out.stp s5 d5)
            have N5 := hide n5
            clear d5 s5 n5 S2 cA fA
            go_wp2
            go_loopw [67] (fun s67 wr => ∃ (k : Nat) (T' : Typ) (A1 : Option Addr) (c1 : Nat), s67 = .int .i64 k ∧ k ≤ 24 ∧ CoU w0 w g (M + 220 + 8 * k) T T' wr b A1 k c1 A2 5 c2 rp q2 q3 q4 ∧ ST T' [.str] 9 (some ⟨x, 0, none⟩) 24 24) (fun s67 _ => 24 - (intOf s67).toNat)
            case atStart => exact ⟨0, T5, none, 0, by go_num, by omega, V2.out.more (by omega), N5.out⟩
            case round =>
              clear V2 N5
              obtain ⟨k, T6, A1, c1, rfl, hk, st, n5⟩ := hrel
              have V := hide st
              have N5 := hide n5
              clear st n5
              by_cases hlt : k < 24
              · have hltz : (k : Int) < 24 := by omega
                obtain ⟨y, cN, hy⟩ := V.out.df.ds.str N5.out hlt
                have HY := hide hy
                clear hy
                have cA := V.out.cE
                have wl := V.out.bb.lt
                go_wp2_with fail
                have SC := hide V.out
                go_region_law (first
                  | (refine step_append_A (ks := ksEl) (by rfl) (.tmp 72) (.tmp 80) (by rfl) elemN_els (by rfl) (by rfl) rfl SC.out.df.ds.ts SC.out.df.ds.size SC.out.s1 (by decide) (E1.el4 HY.out _ _ _) (by omega) (by decide) (by omega) ?_; intro A3 c3 w3 T5 ap; have S3 := hide ((SC.out.ext (Ext.alloc _ _)).appE ap); have cD := S3.out.1.cE; have fD := S3.out.1.free 0; clear ap)
                  | (go_simp; go_at_call 48; refine (cu.pick_m _ g _ _ (SC.out.df.ds.cu.ext (by first | with_reducible exact Ext.refl _ | with_reducible exact Ext.drew _)) (by omega) (by unfold InR; omega)).mono ?_; rintro e w8 ⟨qa, rfl, -, -, -, c7, k7⟩; have SC := hide (SC.out.step (by first | with_reducible exact Ext.refl _ | with_reducible exact Ext.drew _) k7 c7); have cA := SC.out.cE; have bl := SC.out.bb.lt; clear c7 k7))
                all_goals
                  go_wp2
                  go_roundw
                  case rel => exact ⟨k + 1, T5, A3, c3, by go_num, by omega, S3.out.2.1.more (by omega), N5.out.mono S3.out.2.2⟩
                  case measure => simp [intOf]; omega
              · obtain rfl : k = 24 := by omega
                have q0 := V.out.b0.cell
                have f0 := V.out.b0.free
                have q5 := V.out.bb.cell
                go_wp2
                refine bodyPost_ret (v := .agg #[.slice A1 24 c1, .slice A2 5 c2, .int .i64 rp, .int .i64 q2, .int .i64 q3, .int .i64 q4]) (by simp [results, Tryz.results108, go_sem, q0]) rfl ?_
                exact ⟨T6, A1, 24, c1, A2, c2, rp, q2, q3, q4, rfl, by omega, by omega, (V.out.df.more (by omega)).put6 V.out.b0 (Nat.le_refl _) _ _ _ _ _ _, V.out.s1, V.out.s2⟩
end Go.Proofs.YtaoeomgehpdedaaGreat
