/- A judged list under way: a code, a list of items, marks. -/
import Derived.Test.YtaoeomgehpdedaaGreatGU
namespace Go.Proofs.YtaoeomgehpdedaaGreat
open Go.RowKit Go.Sort
set_option linter.unusedVariables false

section
variable {w0 ws w w' : World} {g M M' b n1 c1 n2 c2 n c p : Nat} {Ts T T' : Typ} {A1 A2 A : Option Addr} {r bo k f : Int}
theorem CoU.setC {B1 B2 : Option Addr} {m1 d1 m2 d2 : Nat} (h : CoU w0 ws g M Ts T w b A1 n1 c1 A2 n2 c2 r bo k f) (s1 : ST T ksEl 84 B1 m1 d1) (s2 : ST T [.int] 3 B2 m2 d2) (r' bo' k' f' : Int) :
    CoU w0 ws g M Ts T (set6 w b (.slice B1 m1 d1) (.slice B2 m2 d2) (.int .i64 r') (.int .i64 bo') (.int .i64 k') (.int .i64 f')) b B1 m1 d1 B2 m2 d2 r' bo' k' f' := by
  have hb := h.hb
  have ne : ws.heap.size ≠ b := by omega
  exact ⟨h.df.put6 h.bb (by omega) _ _ _ _ _ _, (((((h.b0.far ne _).far ne _).far ne _).far ne _).far ne _).far ne _, (((((h.bb.set 0 _).set 1 _).set 2 _).set 3 _).set 4 _).set 5 _, s1, s2, hb⟩
structure JU (w0 ws : World) (g M : Nat) (Ts T : Typ) (w : World) (b : Nat) (A1 : Option Addr) (n1 c1 : Nat) (A2 : Option Addr) (n2 c2 : Nat) (r bo k f : Int) (A : Option Addr) (n c p : Nat) : Prop where
  cu : CoU w0 ws g M Ts T w b A1 n1 c1 A2 n2 c2 r bo k f
  bm : Bx g T w (ws.heap.size + 1) #[.slice none 0 0, .slice none 0 0] 30
  l : ST T (ksIt p) 47 A n c
  hb : ws.heap.size + 1 < b
theorem JU.stp (h : JU w0 ws g M Ts T w b A1 n1 c1 A2 n2 c2 r bo k f A n c p) (s : Stp g T w T' w') (d : DS w0 g 64 M' T' w') : JU w0 ws g M' Ts T' w' b A1 n1 c1 A2 n2 c2 r bo k f A n c p :=
  ⟨h.cu.stp s d, h.bm.stp s, h.l.mono s.le, h.hb⟩
theorem JU.ext (h : JU w0 ws g M Ts T w b A1 n1 c1 A2 n2 c2 r bo k f A n c p) (x : Ext w w') : JU w0 ws g M Ts T w' b A1 n1 c1 A2 n2 c2 r bo k f A n c p := h.stp (Stp.of_ext x) (h.cu.df.ds.ext x)
theorem JU.step {wx : World} (h : JU w0 ws g M Ts T w b A1 n1 c1 A2 n2 c2 r bo k f A n c p) (x : Ext w wx) (y : TchF [g] wx w') (z : Cur w' g M') : JU w0 ws g M' Ts T w' b A1 n1 c1 A2 n2 c2 r bo k f A n c p := (h.ext x).stp (Stp.of_cur y) ((h.ext x).cu.df.ds.curs y z)
theorem JU.more (h : JU w0 ws g M Ts T w b A1 n1 c1 A2 n2 c2 r bo k f A n c p) (hm : M ≤ M') : JU w0 ws g M' Ts T w b A1 n1 c1 A2 n2 c2 r bo k f A n c p := ⟨h.cu.more hm, h.bm, h.l, h.hb⟩
theorem JU.setC {B1 B2 B : Option Addr} {m1 d1 m2 d2 m d q : Nat} (h : JU w0 ws g M Ts T w b A1 n1 c1 A2 n2 c2 r bo k f A n c p) (s1 : ST T ksEl 84 B1 m1 d1) (s2 : ST T [.int] 3 B2 m2 d2) (s : ST T (ksIt q) 47 B m d) (r' bo' k' f' : Int) :
    JU w0 ws g M Ts T (set6 w b (.slice B1 m1 d1) (.slice B2 m2 d2) (.int .i64 r') (.int .i64 bo') (.int .i64 k') (.int .i64 f')) b B1 m1 d1 B2 m2 d2 r' bo' k' f' B m d q := by
  have hb := h.hb
  have ne : ws.heap.size + 1 ≠ b := by omega
  exact ⟨h.cu.setC s1 s2 r' bo' k' f', (((((h.bm.far ne _).far ne _).far ne _).far ne _).far ne _).far ne _, s, hb⟩
theorem JU.withL {B : Option Addr} {m d q : Nat} (h : JU w0 ws g M Ts T w b A1 n1 c1 A2 n2 c2 r bo k f A n c p) (s : ST T (ksIt q) 47 B m d) : JU w0 ws g M Ts T w b A1 n1 c1 A2 n2 c2 r bo k f B m d q := ⟨h.cu, h.bm, s, h.hb⟩
/-- A mark stored. -/
theorem JU.putI {y m cy : Nat} {e : TypeId} (h : JU w0 ws g M Ts T w b A1 n1 c1 A2 n2 c2 r bo k f A n c p) (hT : T y = some ([.int], e, m, cy)) (i : Nat) (z : Int) : JU w0 ws g M Ts T (w.setCell ⟨y, i, none⟩ (.int .i64 z)) b A1 n1 c1 A2 n2 c2 r bo k f A n c p := by
  have hn : T y ≠ none := by rw [hT]; simp
  exact ⟨⟨h.cu.df.putI hT i z, h.cu.b0.store hn i _, h.cu.bb.store hn i _, h.cu.s1, h.cu.s2, h.cu.hb⟩, h.bm.store hn i _, h.l, h.hb⟩
theorem JU.cellI {y k2 d2 j : Nat} (h : JU w0 ws g M Ts T w b A1 n1 c1 A2 n2 c2 r bo k f A n c p) (s : ST T [.int] 3 (some ⟨y, 0, none⟩) k2 d2) (hj : j < k2) : ∃ z : Int, w.cell? ⟨y, j, none⟩ = some (.int .i64 z) ∧ w.frozen? ⟨y, j, none⟩ = false := by
  obtain ⟨q, v, e, h1, ⟨z, rfl⟩, -, -, hT⟩ := h.cu.df.ds.ts.load s hj (show ([VK.int] : List VK)[0]? = some .int from rfl)
  obtain rfl : y = q := congrArg Addr.block (Option.some.inj e)
  exact ⟨z, by simpa using h1, h.cu.df.ds.ts.free hT j⟩
/-- A variable of the call's own stored. -/
theorem JU.setB {y : Nat} {cs : Array Value} {t : TypeId} (h : JU w0 ws g M Ts T w b A1 n1 c1 A2 n2 c2 r bo k f A n c p) (x : Bx g T w y cs t) (hy : b < y) (i : Nat) (u : Value) : JU w0 ws g M Ts T (w.setCell ⟨y, i, none⟩ u) b A1 n1 c1 A2 n2 c2 r bo k f A n c p := by
  have hb := h.hb
  exact ⟨⟨h.cu.df.bx x (by omega) i u, h.cu.b0.far (by show ws.heap.size ≠ y; omega) u, h.cu.bb.far (by show b ≠ y; omega) u, h.cu.s1, h.cu.s2, h.cu.hb⟩, h.bm.far (by show ws.heap.size + 1 ≠ y; omega) u, h.l, hb⟩
/-- Two cells of one block stored. -/
abbrev set2 (w : World) (x : Nat) (u0 u1 : Value) : World := (w.setCell ⟨x, 0, none⟩ u0).setCell ⟨x, 1, none⟩ u1
theorem JU.out {m : Nat} (h : JU w0 ws g M Ts T w b A1 n1 c1 A2 n2 c2 r bo k f A n c p) (hm : m ≤ n) (u0 u1 u2 u3 u4 u5 v0 v1 : Value) :
    CoR w0.heap.size (set2 (set6 w ws.heap.size u0 u1 u2 u3 u4 u5) (ws.heap.size + 1) v0 v1) (.agg #[.slice A1 n1 c1, .slice A2 n2 c2, .int .i64 r, .int .i64 bo, .int .i64 k, .int .i64 f]) ∧ LsR w0.heap.size (set2 (set6 w ws.heap.size u0 u1 u2 u3 u4 u5) (ws.heap.size + 1) v0 v1) A m c ∧ Cur (set2 (set6 w ws.heap.size u0 u1 u2 u3 u4 u5) (ws.heap.size + 1) v0 v1) g M ∧ TchF [g] w0 (set2 (set6 w ws.heap.size u0 u1 u2 u3 u4 u5) (ws.heap.size + 1) v0 v1) := by
  have ne : ws.heap.size + 1 ≠ ws.heap.size := by omega
  have d := h.cu.df.put6 h.cu.b0 (Nat.le_refl _) u0 u1 u2 u3 u4 u5
  have x6 : Bx g T (set6 w ws.heap.size u0 u1 u2 u3 u4 u5) (ws.heap.size + 1) #[.slice none 0 0, .slice none 0 0] 30 := (((((h.bm.far ne _).far ne _).far ne _).far ne _).far ne _).far ne _
  have d2 := (d.bx x6 (by omega) 0 v0).bx (x6.set 0 v0) (by omega) 1 v1
  exact ⟨d2.ds.ts.code h.cu.s1 h.cu.s2 r bo k f, (d2.ds.ts.row_it (h.l.sub hm)).ls d2.ds.ts, d2.ds.cu, d2.ds.tch⟩
/-- A slice's cells, for an append. -/
theorem ST.source {lo L : Nat} {ks : List VK} {e : TypeId} (h : TS lo L T w) (s : ST T ks e A n c) {m : Nat} (h0 : 0 < m) (hm : m ≤ n) :
    ∃ (gl : Nat) (news : List Value), A = some ⟨gl, 0, none⟩ ∧ news.length = m * ks.length ∧ (∀ j u, news[j]? = some u → w.cell? ⟨gl, 0 + j, none⟩ = some u) ∧ EL T ks m (fun q => news[q]?) := by
  obtain ⟨gl, mm, rfl, hT, hn⟩ := s.pos (by omega)
  obtain ⟨r1, r2, r3, cur, r4, r5, r6⟩ := h.row gl ks e mm c hT
  have hle : m * ks.length ≤ cur.size := by rw [r5]; exact Nat.mul_le_mul_right _ (by omega)
  have hg : ∀ q, q < m * ks.length → (cur.toList.take (m * ks.length))[q]? = cur[q]? := fun q hq => by
    rw [List.getElem?_take, if_pos hq, Array.getElem?_toList]
  refine ⟨gl, cur.toList.take (m * ks.length), rfl, by rw [List.length_take, show cur.toList.length = cur.size from Array.length_toList]; exact Nat.min_eq_left hle, fun j u hj => ?_, ?_⟩
  · have hjl := (List.getElem?_eq_some_iff.1 hj).1
    rw [List.length_take] at hjl
    rw [hg j (by omega)] at hj
    rw [Nat.zero_add]
    exact (cell_of_row w gl _ cur e (0, 0) r4).trans hj
  · exact EL.congr (fun i hi => r6 i (by omega)) hg
end
/-- What judgedList hands back. -/
abbrev JLPost (w0 : World) (g M : Nat) (e : Ending) (w' : World) : Prop := ∃ (A1 : Option Addr) (n1 c1 : Nat) (A2 : Option Addr) (n2 c2 : Nat) (r bo k f : Int) (A : Option Addr) (n c : Nat) (Ag : Option Addr) (ng cg : Nat) (Ac : Option Addr) (nc cc : Nat) (d : MD), e = .returned (.tuple #[.agg #[.slice A1 n1 c1, .slice A2 n2 c2, .int .i64 r, .int .i64 bo, .int .i64 k, .int .i64 f], .slice A n c, .agg #[.slice Ag ng cg, .slice Ac nc cc]]) ∧ n ≤ 15 ∧
  CoR w0.heap.size w' (.agg #[.slice A1 n1 c1, .slice A2 n2 c2, .int .i64 r, .int .i64 bo, .int .i64 k, .int .i64 f]) ∧ LsR w0.heap.size w' A n c ∧ RdA kM w0.heap.size w' (.agg #[.slice Ag ng cg, .slice Ac nc cc]) d ∧ kM.ok d ∧ Cur w' g M ∧ TchF [g] w0 w'
end Go.Proofs.YtaoeomgehpdedaaGreat
