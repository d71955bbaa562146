/- GE: EG, EH, EI, EJ in one text. -/
import Derived.Test.YtegoapdbpfhkiaaGreatEE
import Derived.Deep.CutBlock
/- Draws of items: any item. -/
namespace Go.Proofs.YtegoapdbpfhkiaaGreat
open Go.RowKit Go.Sort
set_option linter.unusedVariables false

theorem src1At {w : World} {H : Nat} (hH : w.heap.size = H) (u : Value) (t : TypeId) : ∀ j v, [u][j]? = some v → (w.alloc (.cells #[u] t)).cell? ⟨H, 0 + j, none⟩ = some v := by
  subst hH; exact src1 w u t
/-- A literal list of texts, typed. -/
theorem DS.litS {w0 w : World} {g M n : Nat} {T : Typ} (h : DS w0 g 64 M T w) (cs : Array Value) (hs : cs.size = n) (hn : n ≤ 25) (hy : ∀ v ∈ cs.toList, IsStr v) :
    ∃ T', DS w0 g 64 M T' (w.alloc (.cells cs 9)) ∧ Stp g T w T' (w.alloc (.cells cs 9)) ∧ ST T' [.str] 9 (some ⟨w.heap.size, 0, none⟩) n n := by
  refine h.lit _ n 9 [.str] (by omega) (by omega) (by simpa using hs) (fun i hi j k hk => ?_)
  obtain rfl : j = 0 := by have := (List.getElem?_eq_some_iff.1 hk).1; simp at this; omega
  simp at hk
  subst hk
  have hi2 : i < cs.size := by omega
  exact ⟨cs[i], by simp [hi2], hy _ (by simp)⟩
/-- A literal list of texts, of which one is drawn; the literal is laid, and the region's draw made. -/
theorem cu.of_lit {w0 w : World} {g M n H : Nat} {T : Typ} {cs : Array Value} (h : DS w0 g 64 M T w) (hH : w.heap.size = H) (hM : M ≤ 4611686018420000000) (hs : cs.size = n) (hn : 1 ≤ n) (hn2 : n ≤ 25) (hy : ∀ v ∈ cs.toList, IsStr v) :
    Calls Tryz.prog 77 #[.pointer (some ⟨g, 0, none⟩), .slice (some ⟨H, 0, none⟩) n n] (w.alloc (.cells cs 9)) fun e w' => ∃ y, e = .returned (.string (bs y)) ∧ y.length ≤ 16 ∧ Cur w' g (M + 2) ∧ TchF [g] w w' := by
  subst hH
  obtain ⟨T1, d, s, t⟩ := h.litS cs hs hn2 hy
  refine (cu.ofT d (by omega) t hn).mono ?_
  rintro e w' ⟨y, he, hy, c, k⟩
  exact ⟨y, he, hy, c, (TchF.of_ext (Ext.alloc w _)).trans k⟩
theorem cu.of_litD {w0 w : World} {g M n H : Nat} {T : Typ} {cs : Array Value} (h : DS w0 g 64 M T w) (hH : w.heap.size = H) (hM : M ≤ 4611686018420000000) (hs : cs.size = n) (hn : 1 ≤ n) (hn2 : n ≤ 25) (hy : ∀ v ∈ cs.toList, IsStr v) :
    Calls Tryz.prog 77 #[.pointer (some ⟨g, 0, none⟩), .slice (some ⟨H, 0, none⟩) n n] (w.alloc (.cells cs 9)).drew fun e w' => ∃ y, e = .returned (.string (bs y)) ∧ y.length ≤ 16 ∧ Cur w' g (M + 2) ∧ TchF [g] w w' := by
  subst hH
  obtain ⟨T1, d, s, t⟩ := h.litS cs hs hn2 hy
  refine (cu.ofT (d.ext (Ext.drew _)) (by omega) t hn).mono ?_
  rintro e w' ⟨y, he, hy, c, k⟩
  exact ⟨y, he, hy, c, (TchF.of_ext ((Ext.alloc w _).trans (Ext.drew _))).trans k⟩
section
variable {w0 ws w w' : World} {g M M' b : Nat} {Ts T T' : Typ} {A1 : Option Addr} {n1 c1 : Nat} {A2 : Option Addr} {n2 c2 : Nat} {q : Bool}
/-- A text stored into the item's names. -/
theorem ItU.putN (h : ItU w0 ws g M Ts T w b A1 n1 c1 A2 n2 c2 q) {x i : Nat} (hx : A1 = some ⟨x, 0, none⟩) (hi : i < n1) {y : List UInt8} (hy : y.length ≤ 16) : ItU w0 ws g M Ts T (w.setCell ⟨x, i, none⟩ (.string (bs y))) b A1 n1 c1 A2 n2 c2 q := by
  obtain ⟨x', m, e, hT, hm⟩ := h.s1.pos (by omega)
  rw [hx] at e
  simp at e
  subst e
  have d := h.df.store hT (i := i) (j := 0) (k := .str) rfl (isStr_of hy)
  have e2 : i * ([VK.str] : List VK).length + 0 = i := by simp
  rw [e2] at d
  exact ⟨d, h.b0.store (by rw [hT]; simp) _ _, h.bb.store (by rw [hT]; simp) _ _, h.s1, h.s2, h.hb⟩
theorem ItU.putM (h : ItU w0 ws g M Ts T w b A1 n1 c1 A2 n2 c2 q) {x i : Nat} (hx : A2 = some ⟨x, 0, none⟩) (hi : i < n2) (z : Int) : ItU w0 ws g M Ts T (w.setCell ⟨x, i, none⟩ (.int .i64 z)) b A1 n1 c1 A2 n2 c2 q := by
  obtain ⟨x', m, e, hT, hm⟩ := h.s2.pos (by omega)
  rw [hx] at e
  simp at e
  subst e
  have d := h.df.store hT (i := i) (j := 0) (k := .int) rfl ⟨z, rfl⟩
  have e2 : i * ([VK.int] : List VK).length + 0 = i := by simp
  rw [e2] at d
  exact ⟨d, h.b0.store (by rw [hT]; simp) _ _, h.bb.store (by rw [hT]; simp) _ _, h.s1, h.s2, h.hb⟩
theorem ItU.clear (h : ItU w0 ws g M Ts T w b A1 n1 c1 A2 n2 c2 q) : ItU w0 ws g M Ts T (((w.setCell ⟨b, 0, none⟩ (.slice none 0 0)).setCell ⟨b, 1, none⟩ (.slice none 0 0)).setCell ⟨b, 2, none⟩ (.bool false)) b none 0 0 none 0 0 false := by
  have hb := h.hb
  have ne : ws.heap.size ≠ b := by omega
  exact ⟨h.df.put3 h.bb (by omega) _ _ _, ((h.b0.far ne _).far ne _).far ne _, ((h.bb.set 0 _).set 1 _).set 2 _, ST.none_, ST.none_, hb⟩
/-- What the item's first name (mark) is stored into. -/
theorem ItU.firstN (h : ItU w0 ws g M Ts T w b A1 n1 c1 A2 n2 c2 q) (hn : 0 < n1) : ∃ x y, A1 = some ⟨x, 0, none⟩ ∧ w.cell? ⟨x, 0, none⟩ = some (.string (bs y)) ∧ (∀ j, w.frozen? ⟨x, j, none⟩ = false) ∧ T x ≠ none ∧ x ≠ b ∧ x ≠ g ∧ x < w.heap.size := by
  obtain ⟨x, v, e, h1, h2, h3, h4, h5⟩ := h.df.ds.ts.load h.s1 hn (show [VK.str][0]? = some .str from rfl)
  obtain ⟨y, rfl, _⟩ : IsStr v := h2
  exact ⟨x, y, e, by simpa using h1, h.df.ds.ts.free h5, h5, fun e => h5 (by rw [e]; exact h.bb.hT), (h.df.ds.lo h5).2.2, h4⟩
theorem ItU.firstM (h : ItU w0 ws g M Ts T w b A1 n1 c1 A2 n2 c2 q) (hn : 0 < n2) : ∃ x z, A2 = some ⟨x, 0, none⟩ ∧ w.cell? ⟨x, 0, none⟩ = some (.int .i64 z) ∧ (∀ j, w.frozen? ⟨x, j, none⟩ = false) ∧ T x ≠ none ∧ x ≠ b ∧ x ≠ g ∧ x < w.heap.size := by
  obtain ⟨x, v, e, h1, h2, h3, h4, h5⟩ := h.df.ds.ts.load h.s2 hn (show [VK.int][0]? = some .int from rfl)
  obtain ⟨z, rfl⟩ := h2
  exact ⟨x, z, e, by simpa using h1, h.df.ds.ts.free h5, h5, fun e => h5 (by rw [e]; exact h.bb.hT), (h.df.ds.lo h5).2.2, h4⟩
end

end Go.Proofs.YtegoapdbpfhkiaaGreat

/- Draws of lists of items: any items. -/
namespace Go.Proofs.YtegoapdbpfhkiaaGreat
open Go.RowKit Go.Sort
set_option linter.unusedVariables false

theorem wtSS_le {p : Nat} {xs : List (List UInt8)} (h : pS p 64 xs) : kdSS.wt xs ≤ 1088 := by
  obtain ⟨_, h1, h2⟩ := h
  have h3 : ∀ ys : List (List UInt8), (∀ y ∈ ys, y.length ≤ 16) → wtL kdS ys ≤ 17 * ys.length := by
    intro ys
    induction ys with
    | nil => intro _; exact Nat.le_refl _
    | cons y t ih =>
      intro hy
      have h4 := ih (fun z hz => hy z (by simp [hz]))
      have h5 := hy y (by simp)
      show 1 + y.length + wtL kdS t ≤ 17 * (t.length + 1)
      omega
  have h6 := h3 xs h2
  show wtL kdS xs ≤ 1088
  omega
theorem pIt.wt {p : Nat} {x : ItD} (h : pIt p 64 x) : kdItem.wt x ≤ 1152 := by
  have h1 := wtSS_le h.1
  have h2 : kdL.wt x.2.1 = x.2.1.length := wtL_int _
  have h3 := h.2.1.2.1
  rw [kdItem.wt_eq]
  omega
theorem pIts.wt {p : Nat} {xs : List ItD} (hl : xs.length ≤ 64) (h : ∀ x ∈ xs, pIt p 64 x) : wtL kdItem xs ≤ 1048576 := by
  have h3 : ∀ ys : List ItD, (∀ y ∈ ys, pIt p 64 y) → wtL kdItem ys ≤ 1153 * ys.length := by
    intro ys
    induction ys with
    | nil => intro _; exact Nat.le_refl _
    | cons y t ih =>
      intro hy
      have h4 := ih (fun z hz => hy z (by simp [hz]))
      have h5 := (hy y (by simp)).wt
      show 1 + kdItem.wt y + wtL kdItem t ≤ 1153 * (t.length + 1)
      omega
  have := h3 xs h
  omega
section
variable {w0 w : World} {g M : Nat} {T : Typ} {A1 A2 A : Option Addr} {n1 c1 n2 c2 n c p : Nat} {q : Bool}
theorem it3 (h1 : ST T [.str] 9 A1 n1 c1) (h2 : ST T [.int] 3 A2 n2 c2) (p1 : p ≤ n1) (p2 : p ≤ n2) : E1 T (ksIt p) [.slice A1 n1 c1, .slice A2 n2 c2, .bool q] :=
  E1.cons (k := vS p) ⟨_, _, _, rfl, h1, p1⟩ (E1.cons (k := vI p) ⟨_, _, _, rfl, h2, p2⟩ (E1.one (k := .bool) ⟨q, rfl⟩))
theorem src3At {w : World} {H : Nat} (hH : w.heap.size = H) (a b c : Value) (t : TypeId) : ∀ j v, [a, b, c][j]? = some v → (w.alloc (.cells #[a, b, c] t)).cell? ⟨H, 0 + j, none⟩ = some v := by
  subst hH
  intro j v h
  match j, h with
  | 0, h => simp at h; subst h; simp [World.cell?_alloc_at]
  | 1, h => simp at h; subst h; simp [World.cell?_alloc_at]
  | 2, h => simp at h; subst h; simp [World.cell?_alloc_at]
  | j + 3, h => simp at h
/-- An item read. -/
theorem DS.item (h : DS w0 g 64 M T w) (h1 : ST T [.str] 9 A1 n1 c1) (h2 : ST T [.int] 3 A2 n2 c2) (q : Bool) : ∃ x, kdItem.rd w w.heap.size [.slice A1 n1 c1, .slice A2 n2 c2, .bool q] x ∧ pIt 0 64 x :=
  exp_item 0 64 _ _ _ _ h.ts (it3 h1 h2 (Nat.zero_le _) (Nat.zero_le _))
theorem DS.items (h : DS w0 g 64 M T w) (hs : ST T (ksIt p) 51 A n c) : ∃ xs, LR kdItem w w.heap.size A c xs ∧ xs.length = n ∧ (∀ x ∈ xs, pIt p 64 x) ∧ wtL kdItem xs ≤ 1048576 := by
  obtain ⟨xs, h1, h2, h3⟩ := LR.of_ST rfl (exp_item p 64) h.ts hs
  exact ⟨xs, h1, h2, h3, pIts.wt (by have := (h.ts.len hs).1; omega) h3⟩
end
theorem LitI {w0 w : World} {g M : Nat} {T : Typ} (h : DS w0 g 64 M T w) (zs : List Int) (hn : zs.length ≤ 64) :
    ∃ T', DS w0 g 64 M T' (w.alloc (.cells (zs.map (Value.int .i64)).toArray 3)) ∧ Stp g T w T' (w.alloc (.cells (zs.map (Value.int .i64)).toArray 3)) ∧ ST T' [.int] 3 (some ⟨w.heap.size, 0, none⟩) zs.length zs.length := by
  refine h.lit _ zs.length 3 [.int] hn (by omega) (by simp) (fun i hi j k hk => ?_)
  obtain rfl : j = 0 := by have := (List.getElem?_eq_some_iff.1 hk).1; simp at this; omega
  simp at hk
  subst hk
  exact ⟨.int .i64 zs[i], by simp [hi], ⟨_, rfl⟩⟩

end Go.Proofs.YtegoapdbpfhkiaaGreat

/- Draws of items of a code's elements, and lists of them. -/
namespace Go.Proofs.YtegoapdbpfhkiaaGreat
open Go.RowKit Go.Sort
set_option linter.unusedVariables false

/-- The four cells of an element of a typed row. -/
theorem DS.el4 {w0 w : World} {g L M n c i : Nat} {T : Typ} {A : Option Addr} (h : DS w0 g L M T w) (s : ST T ksEl 47 A n c) (hi : i < n) :
    ∃ x y a b d, A = some ⟨x, 0, none⟩ ∧ y.length ≤ 16 ∧ T x ≠ none ∧ x < w.heap.size ∧ w.cell? ⟨x, i * 4, none⟩ = some (.string (bs y)) ∧ w.cell? ⟨x, i * 4 + 1, none⟩ = some (.int .i64 a) ∧ w.cell? ⟨x, i * 4 + 2, none⟩ = some (.int .i64 b) ∧ w.cell? ⟨x, i * 4 + 3, none⟩ = some (.int .i64 d) := by
  obtain ⟨x, v, rfl, h1, h2, _, h3, h4⟩ := h.ts.load s hi (show ksEl[0]? = some .str from rfl)
  obtain ⟨x1, v1, e1, i1, j1, _⟩ := h.ts.load s hi (show ksEl[1]? = some .int from rfl)
  obtain ⟨x2, v2, e2, i2, j2, _⟩ := h.ts.load s hi (show ksEl[2]? = some .int from rfl)
  obtain ⟨x3, v3, e3, i3, j3, _⟩ := h.ts.load s hi (show ksEl[3]? = some .int from rfl)
  have f1 : x1 = x := (congrArg Addr.block (Option.some.inj e1)).symm
  have f2 : x2 = x := (congrArg Addr.block (Option.some.inj e2)).symm
  have f3 : x3 = x := (congrArg Addr.block (Option.some.inj e3)).symm
  subst f1 f2 f3
  obtain ⟨y, rfl, hy⟩ : IsStr v := h2
  obtain ⟨a, rfl⟩ := j1
  obtain ⟨b, rfl⟩ := j2
  obtain ⟨d, rfl⟩ := j3
  exact ⟨_, y, a, b, d, rfl, hy, h4, h3, h1, i1, i2, i3⟩

end Go.Proofs.YtegoapdbpfhkiaaGreat

/- Draws of lists of items of a code's elements. -/
namespace Go.Proofs.YtegoapdbpfhkiaaGreat
open Go.RowKit Go.Sort
set_option linter.unusedVariables false

theorem DF.putS {w0 ws w : World} {g M x m c : Nat} {Ts T : Typ} {e : TypeId} (h : DF w0 ws g 64 M Ts T w) (hT : T x = some ([.str], e, m, c)) (i : Nat) {y : List UInt8} (hy : y.length ≤ 16) : DF w0 ws g 64 M Ts T (w.setCell ⟨x, i, none⟩ (.string (bs y))) := by
  have d := h.store hT (i := i) (j := 0) (k := .str) rfl (isStr_of hy)
  have e2 : i * ([VK.str] : List VK).length + 0 = i := by simp
  rw [e2] at d
  exact d
theorem DF.putI {w0 ws w : World} {g M x m c : Nat} {Ts T : Typ} {e : TypeId} (h : DF w0 ws g 64 M Ts T w) (hT : T x = some ([.int], e, m, c)) (i : Nat) (z : Int) : DF w0 ws g 64 M Ts T (w.setCell ⟨x, i, none⟩ (.int .i64 z)) := by
  have d := h.store hT (i := i) (j := 0) (k := .int) rfl ⟨z, rfl⟩
  have e2 : i * ([VK.int] : List VK).length + 0 = i := by simp
  rw [e2] at d
  exact d
/-- The three cells of an item of a typed row. -/
theorem DS.it3 {w0 w : World} {g L M n c i p : Nat} {T : Typ} {A : Option Addr} (h : DS w0 g L M T w) (s : ST T (ksIt p) 51 A n c) (hi : i < n) :
    ∃ x A1 n1 c1 A2 n2 c2 q, A = some ⟨x, 0, none⟩ ∧ p ≤ n1 ∧ p ≤ n2 ∧ ST T [.str] 9 A1 n1 c1 ∧ ST T [.int] 3 A2 n2 c2 ∧ T x ≠ none ∧ x < w.heap.size ∧ w.cell? ⟨x, i * 3, none⟩ = some (.slice A1 n1 c1) ∧ w.cell? ⟨x, i * 3 + 1, none⟩ = some (.slice A2 n2 c2) ∧ w.cell? ⟨x, i * 3 + 2, none⟩ = some (.bool q) := by
  obtain ⟨x, v, rfl, h1, h2, _, h3, h4⟩ := h.ts.load s hi (show (ksIt p)[0]? = some (vS p) from rfl)
  obtain ⟨x1, v1, e1, i1, j1, _⟩ := h.ts.load s hi (show (ksIt p)[1]? = some (vI p) from rfl)
  obtain ⟨x2, v2, e2, i2, j2, _⟩ := h.ts.load s hi (show (ksIt p)[2]? = some .bool from rfl)
  have f1 : x1 = x := (congrArg Addr.block (Option.some.inj e1)).symm
  have f2 : x2 = x := (congrArg Addr.block (Option.some.inj e2)).symm
  subst f1 f2
  obtain ⟨A1, n1, c1, rfl, s1, p1⟩ := h2
  obtain ⟨A2, n2, c2, rfl, s2, p2⟩ := j1
  obtain ⟨q, rfl⟩ := j2
  exact ⟨_, A1, n1, c1, A2, n2, c2, q, rfl, p1, p2, s1, s2, h4, h3, h1, i1, i2⟩

end Go.Proofs.YtegoapdbpfhkiaaGreat
