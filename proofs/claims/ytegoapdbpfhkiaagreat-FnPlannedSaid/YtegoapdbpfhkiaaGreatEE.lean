/- Draws of items: a text among texts, an item of given names. -/
import Derived.Test.YtegoapdbpfhkiaaGreatED
namespace Go.Proofs.YtegoapdbpfhkiaaGreat
open Go.RowKit Go.Sort
set_option linter.unusedVariables false

theorem ST.sl {lo L : Nat} {T : Typ} {w : World} {A : Option Addr} {n c : Nat} {e : TypeId} (h : TS lo L T w) (hs : ST T [.str] e A n c) : ∃ vs, Sl w w.heap.size A n vs ∧ ∀ v ∈ vs, IsStr v := by
  rcases hs with ⟨rfl, rfl, rfl⟩ | ⟨b, m, rfl, hb, hm⟩
  · exact ⟨[], Sl.nil, by simp⟩
  · obtain ⟨h1, h2, h3, cur, h4, h5, h6⟩ := h.row b _ e m c hb
    have h5' : cur.size = c := by simpa using h5
    refine ⟨cur.toList.take n, ⟨by simp; omega, fun _ => ⟨b, 0, rfl, (h.lt b _ hb).2, fun k u hu => ?_⟩⟩, fun v hv => ?_⟩
    · rw [Nat.zero_add, cell_of_row w b k cur e (0, 0) h4]
      rw [List.getElem?_take] at hu
      split at hu
      · simpa using hu
      · cases hu
    · obtain ⟨k, hk, rfl⟩ := List.getElem_of_mem hv
      simp at hk
      obtain ⟨v, h7, h8⟩ := h6 k (by omega) 0 .str rfl
      have e1 : (cur.toList.take n)[k]? = some v := by
        rw [List.getElem?_take, if_pos (by omega)]
        simpa using h7
      rw [List.getElem?_eq_getElem (by simp; omega)] at e1
      injection e1 with e1
      rw [e1]; exact h8
theorem cu.ofT {w0 w : World} {g M n c : Nat} {T : Typ} {A : Option Addr} (h : DS w0 g 64 M T w) (hM : M ≤ 4611686018427000000) (hs : ST T [.str] 9 A n c) (hn : 1 ≤ n) :
    Calls Tryz.prog 77 #[.pointer (some ⟨g, 0, none⟩), .slice A n c] w fun e w' => ∃ y, e = .returned (.string (bs y)) ∧ y.length ≤ 16 ∧ Cur w' g (M + 2) ∧ TchF [g] w w' := by
  obtain ⟨vs, h1, h2⟩ := ST.sl h.ts hs
  have hl := h.ts.len hs
  refine cu.of_m w g M A n c vs h.cu hM h1 h2 (fun p hp => ?_) hn (by omega)
  obtain ⟨b, m, e, hb, hm⟩ := hs.pos (by omega)
  rw [e] at hp
  injection hp with hp
  subst hp
  exact (h.lo (b := b) (by rw [hb]; simp)).2.2
/-- A literal list of numbers, of which one is drawn. -/
theorem cu.amongT {w0 w : World} {g M : Nat} {T : Typ} (h : DS w0 g 64 M T w) (hM : M ≤ 4611686018427000000) (zs : List Int) (hz : 1 ≤ zs.length) (hz2 : zs.length ≤ 1048576) {wx : World} {x : Nat} (hx : Ext w wx) (hb : Blk wx x (zs.map (Value.int .i64)).toArray 3) (hxg : x ≠ g) (c : Nat) :
    Calls Tryz.prog 78 #[.pointer (some ⟨g, 0, none⟩), .slice (some ⟨x, 0, none⟩) zs.length c] wx fun e w' => ∃ r, e = .returned (.int .i64 r) ∧ r ∈ zs ∧ Cur w' g (M + 2) ∧ TchF [g] wx w' :=
  cu.among_m wx g M x c zs (h.cu.ext hx) hM hb hxg hz hz2

/-- An item under way in box b; the result's box is the first new block. -/
structure ItU (w0 ws : World) (g M : Nat) (Ts T : Typ) (w : World) (b : Nat) (A1 : Option Addr) (n1 c1 : Nat) (A2 : Option Addr) (n2 c2 : Nat) (q : Bool) : Prop where
  df : DF w0 ws g 64 M Ts T w
  b0 : Bx g T w ws.heap.size #[.slice none 0 0, .slice none 0 0, .bool false] 51
  bb : Bx g T w b #[.slice A1 n1 c1, .slice A2 n2 c2, .bool q] 51
  s1 : ST T [.str] 9 A1 n1 c1
  s2 : ST T [.int] 3 A2 n2 c2
  hb : ws.heap.size < b
section
variable {w0 ws w w' : World} {g M M' b : Nat} {Ts T T' : Typ} {A1 : Option Addr} {n1 c1 : Nat} {A2 : Option Addr} {n2 c2 : Nat} {q : Bool}
theorem ItU.stp (h : ItU w0 ws g M Ts T w b A1 n1 c1 A2 n2 c2 q) (k : Stp g T w T' w') (d : DS w0 g 64 M' T' w') : ItU w0 ws g M' Ts T' w' b A1 n1 c1 A2 n2 c2 q :=
  ⟨h.df.stp k d, h.b0.stp k, h.bb.stp k, h.s1.mono k.le, h.s2.mono k.le, h.hb⟩
theorem ItU.ext (h : ItU w0 ws g M Ts T w b A1 n1 c1 A2 n2 c2 q) (k : Ext w w') : ItU w0 ws g M Ts T w' b A1 n1 c1 A2 n2 c2 q := h.stp (Stp.of_ext k) (h.df.ds.ext k)
theorem ItU.curs (h : ItU w0 ws g M Ts T w b A1 n1 c1 A2 n2 c2 q) (k : TchF [g] w w') (c : Cur w' g M') : ItU w0 ws g M' Ts T w' b A1 n1 c1 A2 n2 c2 q := h.stp (Stp.of_cur k) (h.df.ds.curs k c)
theorem ItU.step {wx : World} (h : ItU w0 ws g M Ts T w b A1 n1 c1 A2 n2 c2 q) (x : Ext w wx) (k : TchF [g] wx w') (c : Cur w' g M') : ItU w0 ws g M' Ts T w' b A1 n1 c1 A2 n2 c2 q := (h.ext x).curs k c
theorem ItU.more (h : ItU w0 ws g M Ts T w b A1 n1 c1 A2 n2 c2 q) (hm : M ≤ M') : ItU w0 ws g M' Ts T w b A1 n1 c1 A2 n2 c2 q := ⟨h.df.more hm, h.b0, h.bb, h.s1, h.s2, h.hb⟩
theorem ItU.cN (h : ItU w0 ws g M Ts T w b A1 n1 c1 A2 n2 c2 q) : w.cell? ⟨b, 0, none⟩ = some (.slice A1 n1 c1) := h.bb.cell 0
theorem ItU.cM (h : ItU w0 ws g M Ts T w b A1 n1 c1 A2 n2 c2 q) : w.cell? ⟨b, 1, none⟩ = some (.slice A2 n2 c2) := h.bb.cell 1
theorem ItU.free (h : ItU w0 ws g M Ts T w b A1 n1 c1 A2 n2 c2 q) (j : Nat) : w.frozen? ⟨b, j, none⟩ = false := h.bb.free j
/-- A name more. -/
theorem ItU.appN {A3 : Option Addr} {n3 c3 : Nat} (h : ItU w0 ws g M Ts T w b A1 n1 c1 A2 n2 c2 q) (a : ApT w0.heap.size 64 T [.str] 9 w n3 w' A3 c3 T') :
    ItU w0 ws g M Ts T' w' b A1 n1 c1 A2 n2 c2 q ∧ ItU w0 ws g M Ts T' (w'.setCell ⟨b, 0, none⟩ (.slice A3 n3 c3)) b A3 n3 c3 A2 n2 c2 q := by
  obtain ⟨d, k, s⟩ := h.df.ds.app a
  have h2 := h.stp k d
  have hb := h.hb
  exact ⟨h2, h2.df.bx h2.bb (by omega) _ _, h2.b0.far (by show ws.heap.size ≠ b; omega) _, h2.bb.set 0 _, s, h2.s2, hb⟩
theorem ItU.appM {A3 : Option Addr} {n3 c3 : Nat} (h : ItU w0 ws g M Ts T w b A1 n1 c1 A2 n2 c2 q) (a : ApT w0.heap.size 64 T [.int] 3 w n3 w' A3 c3 T') :
    ItU w0 ws g M Ts T' w' b A1 n1 c1 A2 n2 c2 q ∧ ItU w0 ws g M Ts T' (w'.setCell ⟨b, 1, none⟩ (.slice A3 n3 c3)) b A1 n1 c1 A3 n3 c3 q := by
  obtain ⟨d, k, s⟩ := h.df.ds.app a
  have h2 := h.stp k d
  have hb := h.hb
  exact ⟨h2, h2.df.bx h2.bb (by omega) _ _, h2.b0.far (by show ws.heap.size ≠ b; omega) _, h2.bb.set 1 _, h2.s1, s, hb⟩
/-- The result's box filled. -/
theorem DF.put3 {Ts T : Typ} {x : Nat} {cs : Array Value} {t : TypeId} (h : DF w0 ws g 64 M Ts T w) (hb : Bx g T w x cs t) (hx : ws.heap.size ≤ x) (u0 u1 u2 : Value) : DF w0 ws g 64 M Ts T (((w.setCell ⟨x, 0, none⟩ u0).setCell ⟨x, 1, none⟩ u1).setCell ⟨x, 2, none⟩ u2) :=
  (((h.box hx hb.hT 0 u0).box hx hb.hT 1 u1).box hx hb.hT 2 u2)
end
theorem src1 (w : World) (u : Value) (t : TypeId) : ∀ j v, [u][j]? = some v → (w.alloc (.cells #[u] t)).cell? ⟨w.heap.size, 0 + j, none⟩ = some v := by
  intro j v h
  match j, h with
  | 0, h => simp at h; subst h; simp [World.cell?_alloc_at]
  | j + 1, h => simp at h
theorem el1 {T : Typ} {k : VK} {u : Value} (h : VT T k u) : EL T [k] 1 (fun q => [u][q]?) := (E1.one h).el

end Go.Proofs.YtegoapdbpfhkiaaGreat
