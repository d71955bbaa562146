/- Two judges changed over: the plain part; two numbers of a row in marks of the call's own, changed over in place. -/
import Derived.Test.YtijgndfhfggipaaMN
namespace Go.Proofs.Ytijgndfhfggipaa
open Go.RowKit Go.Sort
set_option linter.unusedVariables false

/-- Lists of which the first k have been changed. -/
def mapN (f : List Int → List Int) (xs : List (List Int)) (k : Nat) : List (List Int) := (xs.map f).take k ++ xs.drop k
section
variable (f : List Int → List Int) (xs : List (List Int)) (k : Nat)
theorem mapN_zero : mapN f xs 0 = xs := by simp [mapN]
theorem mapN_all (h : xs.length ≤ k) : mapN f xs k = xs.map f := by
  unfold mapN
  rw [List.take_of_length_le (by simpa using h), List.drop_eq_nil_of_le h, List.append_nil]
theorem mapN_len : (mapN f xs k).length = xs.length := by simp [mapN]; omega
theorem mapN_at (h : k < xs.length) : (mapN f xs k)[k]? = xs[k]? := by
  have e : ((xs.map f).take k).length = k := by simp; omega
  unfold mapN
  rw [List.getElem?_append_right (by omega), e, Nat.sub_self, List.getElem?_drop, Nat.add_zero]
theorem mapN_set (x : List Int) (hx : xs[k]? = some x) : (mapN f xs k).set k (f x) = mapN f xs (k + 1) := by
  obtain ⟨hk, rfl⟩ := List.getElem?_eq_some_iff.1 hx
  have e : ((xs.map f).take k).length = k := by simp; omega
  unfold mapN
  rw [List.set_append_right _ _ (by omega), e, Nat.sub_self, List.drop_eq_getElem_cons hk, List.set_cons_zero, List.take_succ_eq_append_getElem (by simpa using hk), List.append_assoc]
  simp
end
def swapJ (a b : Nat) (x : List Int) : List Int := (x.set a (x.getD b 0)).set b (x.getD a 0)
theorem swapJ_len (a b : Nat) (x : List Int) : (swapJ a b x).length = x.length := by simp [swapJ]
theorem swapJ_wt (xs : List (List Int)) (a b : Nat) : wtL kdL (xs.map (swapJ a b)) = wtL kdL xs := by
  induction xs with
  | nil => rfl
  | cons x t ih =>
    have h1 : kdL.wt (swapJ a b x) = (swapJ a b x).length := wtL_int _
    have h2 : kdL.wt x = x.length := wtL_int _
    have h3 := swapJ_len a b x
    show 1 + kdL.wt (swapJ a b x) + wtL kdL (t.map (swapJ a b)) = 1 + kdL.wt x + wtL kdL t
    omega
theorem swapJ_ok {d : MD} (a b : Nat) (h : kM.ok d) : kM.ok (d.1.map (swapJ a b), d.2.map (swapJ a b)) := by
  have h1 := swapJ_wt d.1 a b
  have h2 := swapJ_wt d.2 a b
  have h3 : kdM.wt (d.1.map (swapJ a b), d.2.map (swapJ a b)) = wtL kdL (d.1.map (swapJ a b)) + wtL kdL (d.2.map (swapJ a b)) := rfl
  have h4 : kdM.wt d = wtL kdL d.1 + wtL kdL d.2 := rfl
  have h5 : kdM.wt d ≤ 1048576 := h
  show kdM.wt _ ≤ 1048576
  omega
def swapJudgesF (d : MD) (a b : Int) : MD × Bool := if hasJudge d a && hasJudge d b then ((d.1.map (swapJ a.toNat b.toNat), d.2.map (swapJ a.toNat b.toNat)), true) else (([], []), false)

theorem LO.swap {w : World} {A : Option Addr} {c : Nat} {xs : List (List Int)} {fp : List Nat} (h : LO kdL 24 w A c xs fp) (k : Nat) (x : List Int) (hx : xs[k]? = some x) (a b : Nat) (ha : a < x.length) (hb : b < x.length) :
    ∃ g gx cx, A = some ⟨g, 0, none⟩ ∧ g ∈ fp ∧ gx ∈ fp ∧ gx ≠ g ∧ w.cell? ⟨g, k, none⟩ = some (.slice (some ⟨gx, 0, none⟩) x.length cx) ∧ x.length ≤ cx ∧ cx ≤ 9223372036854775807 ∧ w.cell? ⟨gx, a, none⟩ = some (.int .i64 (x.getD a 0)) ∧ w.cell? ⟨gx, b, none⟩ = some (.int .i64 (x.getD b 0)) ∧ (∀ i, w.frozen? ⟨gx, i, none⟩ = false) ∧
      (∀ z u, ∃ t, (w.setCell ⟨gx, a, none⟩ (.int .i64 z)).cell? ⟨gx, b, none⟩ = some (.int .i64 t) ∧ (∀ i, (w.setCell ⟨gx, a, none⟩ (.int .i64 z)).frozen? ⟨gx, i, none⟩ = false) ∧ LO kdL 24 ((w.setCell ⟨gx, a, none⟩ (.int .i64 z)).setCell ⟨gx, b, none⟩ (.int .i64 u)) A c (xs.set k ((x.set a z).set b u)) fp) := by
  obtain ⟨g, cs, f, hat⟩ := h.at_ k x hx
  obtain ⟨Ax, cx, hcs, hlo⟩ := hat.own
  have hcs : cs = [.slice Ax x.length cx] := hcs
  subst hcs
  obtain ⟨ho, hf⟩ := hlo.own
  obtain ⟨gx, rfl, _, _, hc⟩ := ho.pos (by omega)
  have hm : gx ∈ f := by rw [hf]; simp
  refine ⟨g, gx, cx, hat.addr, hat.mem, (hat.sub gx hm).1, (hat.sub gx hm).2, ?_, hc, ho.capm, ho.cell a ha, ho.cell b hb, ho.free, fun z u => ?_⟩
  · have := hat.cell 0 _ rfl
    simpa [kdL, kdList] using this
  · have o2 := ho.set a z
    refine ⟨_, o2.cell b (by simpa using hb), o2.free, ?_⟩
    refine hat.inplace _ _ ?_ ((TchF.setCell w _ _ hm).trans (TchF.setCell _ _ _ hm))
    have h9 := own_row (o2.set b u)
    rw [hf]
    simpa using h9
/-- The cells of a list's own row. -/
theorem LO.heads {w : World} {A : Option Addr} {c : Nat} {xs : List (List Int)} {fp : List Nat} (h : LO kdL 24 w A c xs fp) : ∃ hs, Own 24 w 0 A xs.length c hs ∧ ∀ u ∈ hs, u.oneCell' = true := by
  obtain ⟨css, fps, hr, hl1, hl2, hown, hfp, hnd⟩ := h
  refine ⟨css.flatten, hr, fun u hu => ?_⟩
  obtain ⟨cs, hcs, hu⟩ := List.mem_flatten.1 hu
  obtain ⟨i, hi, rfl⟩ := List.getElem_of_mem hcs
  exact kdL.rd_one (kdL.own_rd (hown i _ _ _ (List.getElem?_eq_getElem hi) (List.getElem?_eq_getElem (by omega)) (List.getElem?_eq_getElem (by omega)))) u hu
end Go.Proofs.Ytijgndfhfggipaa
