/- A sheet's list, drawn: items cleaned; weights; reviews appended. -/
import Derived.Test.YtofmfagdaiphaaaJD
import Derived.Test.YtofmfagdaiphaaaRV
namespace Go.Proofs.Ytofmfagdaiphaaa
open Go.RowKit Go.Sort
set_option linter.unusedVariables false

theorem E1.sl3 {T : Typ} {p : Nat} {cs : List Value} (h : E1 T (ksIt p) cs) : ∃ B1 k1 e1 B2 k2 e2 q, cs = [.slice B1 k1 e1, .slice B2 k2 e2, .bool q] ∧ p ≤ k1 ∧ p ≤ k2 ∧ ST T [.str] 9 B1 k1 e1 ∧ ST T [.int] 3 B2 k2 e2 := by
  obtain ⟨hl, hj⟩ := h
  obtain ⟨v0, a0, B1, k1, e1, rfl, s1, p1⟩ := hj 0 (vS p) rfl
  obtain ⟨v1, a1, B2, k2, e2, rfl, s2, p2⟩ := hj 1 (vI p) rfl
  obtain ⟨v2, a2, q, rfl⟩ := hj 2 .bool rfl
  refine ⟨B1, k1, e1, B2, k2, e2, q, ?_, p1, p2, s1, s2⟩
  match cs, hl, a0, a1, a2 with
  | [x, y, z], _, a0, a1, a2 =>
    simp only [List.getElem?_cons_zero, List.getElem?_cons_succ, Option.some.injEq] at a0 a1 a2
    subst a0 a1 a2
    rfl
theorem cu.cleanT {w0 w : World} {g M n1 c1 n2 c2 : Nat} {T : Typ} {A1 A2 : Option Addr} (h : DS w0 g 64 M T w) (h1 : ST T [.str] 9 A1 n1 c1) (h2 : ST T [.int] 3 A2 n2 c2) (q : Bool) (hn : 1 ≤ n1) :
    Calls Try.prog 72 #[.agg #[.slice A1 n1 c1, .slice A2 n2 c2, .bool q]] w fun e w' => ∃ T' B1 k1 e1 B2 k2 e2 q', e = .returned (.agg #[.slice B1 k1 e1, .slice B2 k2 e2, .bool q']) ∧ 1 ≤ k1 ∧ 1 ≤ k2 ∧ DS w0 g 64 M T' w' ∧ Stp g T w T' w' ∧ ST T' [.str] 9 B1 k1 e1 ∧ ST T' [.int] 3 B2 k2 e2 := by
  obtain ⟨x, hx, hp⟩ := h.item h1 h2 q
  have hwt : kdItem.wt x ≤ 1048576 := by have := hp.wt; omega
  obtain ⟨D, d, D', d', e, -, -⟩ := kdItem.open_ hx
  simp only [List.cons.injEq, Value.slice.injEq] at e
  have e1 := e.1.2.1
  refine (s.itClean_to w _ x hx hwt).mono ?_
  rintro r w' ⟨vs', f, rfl, ho, hf, hxt⟩
  have hpc : pIt 1 64 (cleanD x) := ⟨⟨by show 1 ≤ x.1.length; omega, hp.1.2.1, hp.1.2.2⟩, ⟨by simp [cleanD]; omega, by simpa [cleanD] using hp.1.2.1, fun _ _ => trivial⟩, trivial⟩
  obtain ⟨T', d2, k2, t2⟩ := DS.imp (imp_item 1 64) h hxt ho hpc hf
  obtain ⟨B1, m1, b1, B2, m2, b2, q', rfl, p1, p2, s1, s2⟩ := t2.sl3
  exact ⟨T', B1, m1, b1, B2, m2, b2, q', rfl, p1, p2, d2, k2, s1, s2⟩
/-- The list as it stands when its sheet is made. -/
theorem lc_of {w0 w : World} {g M n c : Nat} {T : Typ} {A : Option Addr} (h : DS w0 g 64 M T w) (s : ST T (ksIt 1) 50 A n c) : ∃ xs, LR kdItem w w.heap.size A c xs ∧ xs.length = n ∧ (∀ x ∈ xs, pIt 1 64 x) ∧ wtL kdItem xs ≤ 1048576 ∧ LC w g A n c (xs.map (fun x => x.1.length)) := by
  obtain ⟨xs, h1, h2, h3, h4⟩ := h.items s
  have hl := h.ts.len s
  refine ⟨xs, h1, h2, h3, h4, hl.2.1, by have := hl.2.2; unfold maxLen at this; omega, hl.1, by simpa using h2, fun i hi => ?_⟩
  obtain ⟨x, A1, n1, c1, A2, n2, c2, q, hA, -, -, -, -, hT, hx, -, -, -⟩ := h.it3 s hi
  have hlo := h.lo hT
  obtain ⟨y, hy⟩ : ∃ y, Hid (xs[i]? = some y) := get_ex xs i (by omega)
  obtain ⟨b, o, B, C, B2, C2, hb, _, i0, i1, i2, -, -⟩ := h1.item i y hy.out
  rw [hA] at hb
  simp only [Option.some.injEq, Addr.mk.injEq, and_true] at hb
  obtain ⟨rfl, rfl⟩ := hb
  rw [Nat.zero_add] at i0 i1 i2
  have hym := h3 y (List.mem_of_getElem? hy.out)
  have e : (xs.map (fun x => x.1.length)).getD i 0 = y.1.length := by simp [List.getD_eq_getElem?_getD, hy.out]
  rw [e]
  exact ⟨x, B, C, B2, _, C2, _, hA, hx, hlo.2.2, i0, i1, i2, hym.1.1, hym.1.2.1⟩
/-- What a sheet weighs. -/
theorem sh_ok {xs : List ItD} {vs : List (List (List Int))} {rs : List RvD} (h1 : xs.length ≤ 64) (h2 : ∀ x ∈ xs, pIt 0 64 x) (h3 : vs.length ≤ 3) (h4 : ∀ v ∈ vs, v.length ≤ 64 ∧ ∀ x ∈ v, x.length ≤ 65) (h5 : rs.length ≤ 64) : kSm.ok ((xs, vs, rs) : ShD) := by
  show kdSh.wt _ ≤ 1048576
  rw [kdSh.wt_eq]
  have e1 : kdItS.wt xs = wtL kdItem xs := rfl
  have e2 : kdLLL.wt vs = wtL kdLL vs := rfl
  have e3 : kdRvS.wt rs = wtL kdRv rs := rfl
  have a1 := wtL_leS kdItem 1152 xs (fun x hx => (h2 x hx).wt)
  have a2 := wtL_leS kdLL 4224 vs (fun v hv => by
    have b := wtL_leS kdL 65 v (fun x hx => by rw [show kdL.wt x = x.length from wtL_int _]; exact (h4 v hv).2 x hx)
    have := (h4 v hv).1
    have e : kdLL.wt v = wtL kdL v := rfl
    omega)
  have a3 := wtL_rv rs
  show kdItS.wt xs + kdLLL.wt vs + kdRvS.wt rs ≤ 1048576
  omega
theorem Shp.small {ns : List Nat} {vs : List (List (List Int))} (h : Shp ns vs) (hn : ns.length ≤ 64) (h64 : ∀ i, ns.getD i 0 ≤ 64) : vs.length ≤ 3 ∧ ∀ v ∈ vs, v.length ≤ 64 ∧ ∀ x ∈ v, x.length ≤ 65 := by
  refine ⟨Nat.le_of_eq h.1, fun v hv => ?_⟩
  obtain ⟨i, hi, rfl⟩ := List.getElem_of_mem hv
  obtain ⟨e1, e2⟩ := h.2 i _ (List.getElem?_eq_getElem hi)
  refine ⟨by omega, fun x hx => ?_⟩
  obtain ⟨j, hj, rfl⟩ := List.getElem_of_mem hx
  have := e2 j _ (List.getElem?_eq_getElem hj)
  have := h64 j
  omega
theorem small_take {vs : List (List (List Int))} (h : vs.length ≤ 3 ∧ ∀ v ∈ vs, v.length ≤ 64 ∧ ∀ x ∈ v, x.length ≤ 65) (q : Nat) : (vs.take q).length ≤ 3 ∧ ∀ v ∈ vs.take q, v.length ≤ 64 ∧ ∀ x ∈ v, x.length ≤ 65 :=
  ⟨by rw [List.length_take]; have := h.1; omega, fun v hv => h.2 v (List.mem_of_mem_take hv)⟩
theorem small_set {vs : List (List (List Int))} (h : vs.length ≤ 3 ∧ ∀ v ∈ vs, v.length ≤ 64 ∧ ∀ x ∈ v, x.length ≤ 65) (cl i : Nat) {v : List (List Int)} {y : List Int} (hv : vs[cl]? = some v) (hy : y.length ≤ 65) : (vs.set cl (v.set i y)).length ≤ 3 ∧ ∀ u ∈ vs.set cl (v.set i y), u.length ≤ 64 ∧ ∀ x ∈ u, x.length ≤ 65 := by
  refine ⟨by rw [List.length_set]; exact h.1, fun u hu => ?_⟩
  rcases List.mem_or_eq_of_mem_set hu with e | e
  · exact h.2 u e
  · subst e
    have hv2 := h.2 v (List.mem_of_getElem? hv)
    refine ⟨by rw [List.length_set]; exact hv2.1, fun x hx => ?_⟩
    rcases List.mem_or_eq_of_mem_set hx with e | e
    · exact hv2.2 x e
    · subst e; exact hy
theorem pIt_mark {xs : List ItD} (h : ∀ x ∈ xs, pIt 1 64 x) (i j : Nat) (z : Int) {x : ItD} (hx : xs[i]? = some x) : ∀ y ∈ xs.set i (x.1, x.2.1.set j z, x.2.2), pIt 0 64 y := fun y hy => by
  rcases List.mem_or_eq_of_mem_set hy with e | e
  · exact ⟨⟨Nat.zero_le _, (h y e).1.2⟩, ⟨Nat.zero_le _, (h y e).2.1.2⟩, trivial⟩
  · subst e
    have hp := h x (List.mem_of_getElem? hx)
    exact ⟨⟨Nat.zero_le _, hp.1.2⟩, ⟨Nat.zero_le _, by simpa using hp.2.1.2.1, fun _ _ => trivial⟩, trivial⟩
theorem pIt_zero {xs : List ItD} (h : ∀ x ∈ xs, pIt 1 64 x) : ∀ y ∈ xs, pIt 0 64 y := fun y e => ⟨⟨Nat.zero_le _, (h y e).1.2⟩, ⟨Nat.zero_le _, (h y e).2.1.2⟩, trivial⟩
/-- A review appended, from the literal just made. -/
theorem step_append_RV {w1 : World} {A : Option Addr} {n c d H : Nat} {rs : List RvD} {f3 : List Nat} {r1 r2 r3 : Int} {t : TypeId} {ops : Array Oper} {o : Oper} {a : Act} {Q : Exit → Act → World → Prop} {KK : Act → World → Prop} {G : Prop} (hgd : o.guard = none) (s y : Operand)
    (hop : o.op = .call { callee := .builtin .append, args := #[s, y], argTypes := #[26, 26] }) (hs' : a.eval s = .slice A n c) (hx' : a.eval y = .slice (some ⟨H, 0, none⟩) 1 d) (hH : w1.heap.size = H)
    (h : LO kdRv 30 w1 A c rs f3) (hn : rs.length = n) (hb : n ≤ 1000)
    (hK : ∀ A' c' w' fp', ApL kdRv 30 (w1.alloc (.cells #[.int .i64 r1, .int .i64 r2, .int .i64 r3] t)) f3 [] w' A' c' (rs ++ [(r1, r2, r3)]) fp' → KK (a.put o.dst (.slice A' (n + 1) c')) w') :
    if Region.wanted o (yielded ops a.tmps) = true then Oper.wp Try.prog o a (w1.alloc (.cells #[.int .i64 r1, .int .i64 r2, .int .i64 r3] t)) KK Q else G :=
  step_append_LO (K := kdRv) hgd s y hop elemN_rv (by decide) hn.symm hs' hx' (h.ext (Ext.alloc _ _)) (kdRv.mkOwn _ (r1, r2, r3)) (by simp) (src3At hH _ _ _ _) (by omega) (by omega) hK
end Go.Proofs.Ytofmfagdaiphaaa
