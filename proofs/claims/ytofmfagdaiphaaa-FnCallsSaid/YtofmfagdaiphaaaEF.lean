/- Draws of codes: valid ones, in typed memory. -/
import Derived.Test.YtofmfagdaiphaaaEE
namespace Go.Proofs.Ytofmfagdaiphaaa
open Go.RowKit Go.Sort
set_option linter.unusedVariables false

theorem vstr {T : Typ} {v : Value} (h : VT T .str v) : ∃ y, v = .string (bs y) ∧ y.length ≤ 16 := h
theorem ST.blk {T : Typ} {ks : List VK} {e : TypeId} {x n c : Nat} (h : ST T ks e (some ⟨x, 0, none⟩) n c) (hn : 0 < n) : T x ≠ none := by
  obtain ⟨b, m, e1, e2, _⟩ := h.pos hn
  simp at e1
  subst e1
  rw [e2]; simp
/-- A text read from a typed row whose address is known. -/
theorem DS.str {w0 w : World} {g L M x n c i : Nat} {T : Typ} {e : TypeId} (h : DS w0 g L M T w) (s : ST T [.str] e (some ⟨x, 0, none⟩) n c) (hi : i < n) : ∃ y, w.cell? ⟨x, i, none⟩ = some (.string (bs y)) ∧ y.length ≤ 16 := by
  obtain ⟨b, v, e1, h1, h2, _⟩ := h.ts.load s hi (show [VK.str][0]? = some .str from rfl)
  simp at e1
  subst e1
  obtain ⟨y, rfl, hy⟩ := vstr h2
  exact ⟨y, by simpa using h1, hy⟩

section
variable {w0 ws w w' : World} {g M M' b : Nat} {Ts T T' : Typ} {A1 : Option Addr} {n1 c1 : Nat} {A2 : Option Addr} {n2 c2 : Nat} {r bo k f : Int}
theorem DF.put6 {x : Nat} {cs : Array Value} {t : TypeId} (h : DF w0 ws g 64 M Ts T w) (hb : Bx g T w x cs t) (hx : ws.heap.size ≤ x) (u0 u1 u2 u3 u4 u5 : Value) :
    DF w0 ws g 64 M Ts T ((((((w.setCell ⟨x, 0, none⟩ u0).setCell ⟨x, 1, none⟩ u1).setCell ⟨x, 2, none⟩ u2).setCell ⟨x, 3, none⟩ u3).setCell ⟨x, 4, none⟩ u4).setCell ⟨x, 5, none⟩ u5) :=
  (((((h.box hx hb.hT 0 u0).box hx hb.hT 1 u1).box hx hb.hT 2 u2).box hx hb.hT 3 u3).box hx hb.hT 4 u4).box hx hb.hT 5 u5
end
theorem srcA {w : World} {H : Nat} {cs : Array Value} {t : TypeId} (hH : w.heap.size = H) : ∀ j v, cs.toList[j]? = some v → (w.alloc (.cells cs t)).cell? ⟨H, 0 + j, none⟩ = some v := by
  subst hH
  intro j v h
  rw [Nat.zero_add, (Blk.new rfl cs t).cell j]
  simpa using h
/-- An append of one element that lies in a literal just made. -/
theorem step_append_A {P : Program} {t e te : TypeId} {bytes : Nat} {z : Value} {lo L : Nat} {T : Typ} {w1 : World} {ks : List VK} {A : Option Addr} {n c d H : Nat} {cs : Array Value} {ops : Array Oper} {o : Oper} {a : Act} {Q : Exit → Act → World → Prop} {KK : Act → World → Prop} {G : Prop} (hgd : o.guard = none) (s y : Operand)
    (hop : o.op = .call { callee := .builtin .append, args := #[s, y], argTypes := #[t, t] }) (E : ElemN P t e ks.length bytes z) (hs' : a.eval s = .slice A n c) (hx' : a.eval y = .slice (some ⟨H, 0, none⟩) 1 d) (hH : w1.heap.size = H)
    (h : TS lo L T w1) (hlo : lo ≤ w1.heap.size) (hs : ST T ks e A n c) (hk : 0 < ks.length) (hel : E1 T ks cs.toList) (hL : n + 1 ≤ L) (hL2 : L ≤ 1000000000) (hb : (n + 1) * bytes ≤ 140737488355328)
    (hK : ∀ A' c' w' T', ApT lo L T ks e (w1.alloc (.cells cs te)) (n + 1) w' A' c' T' → KK (a.put o.dst (.slice A' (n + 1) c')) w') : if Region.wanted o (yielded ops a.tmps) = true then Oper.wp P o a (w1.alloc (.cells cs te)) KK Q else G :=
  step_append_T hgd s y hop E hs' hx' (h.ext (Ext.alloc _ _)) (by have : (w1.alloc (.cells cs te)).heap.size = w1.heap.size + 1 := by simp
                                                                  omega) hs hk (by rw [hel.1]; omega) (srcA hH) hel.el (by decide) hL hL2 hb hK
theorem wpList_append_A {P : Program} {t e te : TypeId} {bytes : Nat} {z : Value} {lo L : Nat} {T : Typ} {w1 : World} {ks : List VK} {A : Option Addr} {n c d H : Nat} {cs : Array Value} {ops : Array Oper} {rest : List Oper} {o : Oper} {a : Act} {Q : Exit → Act → World → Prop} (hgd : o.guard = none) (s y : Operand)
    (hop : o.op = .call { callee := .builtin .append, args := #[s, y], argTypes := #[t, t] }) (E : ElemN P t e ks.length bytes z) (hs' : a.eval s = .slice A n c) (hx' : a.eval y = .slice (some ⟨H, 0, none⟩) 1 d) (hH : w1.heap.size = H)
    (h : TS lo L T w1) (hlo : lo ≤ w1.heap.size) (hs : ST T ks e A n c) (hk : 0 < ks.length) (hel : E1 T ks cs.toList) (hL : n + 1 ≤ L) (hL2 : L ≤ 1000000000) (hb : (n + 1) * bytes ≤ 140737488355328)
    (hK : ∀ A' c' w' T', ApT lo L T ks e (w1.alloc (.cells cs te)) (n + 1) w' A' c' T' → wpList P ops Q rest (a.put o.dst (.slice A' (n + 1) c')) w') : wpList P ops Q (o :: rest) a (w1.alloc (.cells cs te)) :=
  wpList_append_T hgd s y hop E hs' hx' (h.ext (Ext.alloc _ _)) (by have : (w1.alloc (.cells cs te)).heap.size = w1.heap.size + 1 := by simp
                                                                    omega) hs hk (by rw [hel.1]; omega) (srcA hH) hel.el (by decide) hL hL2 hb hK
theorem E1.el4 {T : Typ} {y : List UInt8} (hy : y.length ≤ 16) (a b c : Int) : E1 T ksEl [Value.string (bs y), .int .i64 a, .int .i64 b, .int .i64 c] :=
  E1.cons (k := .str) (isStr_of hy) (E1.cons (k := .int) ⟨a, rfl⟩ (E1.cons (k := .int) ⟨b, rfl⟩ (E1.one (k := .int) ⟨c, rfl⟩)))
theorem cu.amongC {w0 w : World} {g M : Nat} {T : Typ} (h : DS w0 g 64 M T w) (hM : M ≤ 4611686018427000000) (zs : List Int) (hz : 1 ≤ zs.length) (hz2 : zs.length ≤ 1048576) {wx : World} {x : Nat} {cs : Array Value} (hx : Ext w wx) (hb : Blk wx x cs 3) (hcs : cs = (zs.map (Value.int .i64)).toArray) (hxg : x ≠ g) (c : Nat) :
    Calls Try.prog 74 #[.pointer (some ⟨g, 0, none⟩), .slice (some ⟨x, 0, none⟩) zs.length c] wx fun e w' => ∃ r, e = .returned (.int .i64 r) ∧ r ∈ zs ∧ Cur w' g (M + 2) ∧ TchF [g] wx w' := by
  subst hcs
  exact cu.amongT h hM zs hz hz2 hx hb hxg c
theorem Ext.ad {w : World} {o : Obj} : Ext w (w.alloc o).drew := (Ext.alloc w o).trans (Ext.drew _)
theorem Blk.newD {w : World} {H : Nat} (hH : w.heap.size = H) (cs : Array Value) (t : TypeId) : Blk (w.alloc (.cells cs t)).drew H cs t := (Blk.new hH cs t).ext (Ext.drew _)
theorem src4 (w : World) (a b c d : Value) (t : TypeId) : ∀ j v, [a, b, c, d][j]? = some v → (w.alloc (.cells #[a, b, c, d] t)).cell? ⟨w.heap.size, 0 + j, none⟩ = some v := by
  intro j v h
  match j, h with
  | 0, h => simp at h; subst h; simp [World.cell?_alloc_at]
  | 1, h => simp at h; subst h; simp [World.cell?_alloc_at]
  | 2, h => simp at h; subst h; simp [World.cell?_alloc_at]
  | 3, h => simp at h; subst h; simp [World.cell?_alloc_at]
  | j + 4, h => simp at h
theorem el4 {T : Typ} {y : List UInt8} (hy : y.length ≤ 16) (a b c : Int) : EL T ksEl 1 (fun q => [Value.string (bs y), .int .i64 a, .int .i64 b, .int .i64 c][q]?) :=
  (E1.cons (k := .str) (isStr_of hy) (E1.cons (k := .int) ⟨a, rfl⟩ (E1.cons (k := .int) ⟨b, rfl⟩ (E1.one (k := .int) ⟨c, rfl⟩)))).el

end Go.Proofs.Ytofmfagdaiphaaa
