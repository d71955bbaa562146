/- The reference's order: plainly; an item's full base if it is not late. -/
import Derived.Test.YtiohjcadmahkgaaGreatZU
import Derived.Test.YtiohjcadmahkgaaGreatCL
namespace Go.Proofs.YtiohjcadmahkgaaGreat
open Go.RowKit Go.Sort
set_option linter.unusedVariables false

def ltE (d : CoD) (x y : ItD) : Bool := decide (fullF d (earlyD x) < fullF d (earlyD y))
theorem posS_map (d : CoD) (out : List ItD) (y : ItD) : ∀ k, k ≤ out.length → posS (ltF d) (out.map earlyD) (earlyD y) k = posS (ltE d) out y k
  | 0, _ => rfl
  | k + 1, h => by
    unfold posS
    have e : (out.map earlyD).getD k default = earlyD (out.getD k default) := by
      rw [List.getD_eq_getElem?_getD, List.getD_eq_getElem?_getD, List.getElem?_map, List.getElem?_eq_getElem (by omega)]
      rfl
    rw [posS_map d out y k (by omega), e]
    rfl
theorem insS_map (d : CoD) (out : List ItD) (y : ItD) : insS (ltF d) (out.map earlyD) (earlyD y) = (insS (ltE d) out y).map earlyD := by
  unfold insS insAt
  rw [List.length_map, posS_map d out y _ (Nat.le_refl _), List.map_append, List.map_cons, List.map_take, List.map_drop]
theorem sortS_map (d : CoD) (xs : List ItD) : sortS (ltF d) (xs.map earlyD) = (sortS (ltE d) xs).map earlyD := by
  have h : ∀ (ys out : List ItD), (ys.map earlyD).foldl (insS (ltF d)) (out.map earlyD) = (ys.foldl (insS (ltE d)) out).map earlyD := by
    intro ys
    induction ys with
    | nil => intro out; rfl
    | cons y t ih =>
      intro out
      rw [List.map_cons, List.foldl_cons, List.foldl_cons, insS_map, ih]
  exact h xs []
theorem lateL_map (xs : List ItD) : lateL (xs.map earlyD) = lateL xs := by
  unfold lateL
  rw [List.length_map]
  refine List.map_congr_left fun i hi => ?_
  have hi := List.mem_range.1 hi
  rw [List.getD_eq_getElem?_getD, List.getD_eq_getElem?_getD, List.getElem?_map, List.getElem?_eq_getElem hi]
  rfl
theorem orderL_E (d : CoD) (xs : List ItD) : lateL (sortS (ltE d) xs) = orderL d xs := by
  unfold orderL
  rw [sortS_map, lateL_map]
theorem sortE_succ (d : CoD) {xs : List ItD} {k : Nat} {x : ItD} (h : xs[k]? = some x) : sortS (ltE d) (xs.take (k + 1)) = insS (ltE d) (sortS (ltE d) (xs.take k)) x := by
  obtain ⟨hk, rfl⟩ := List.getElem?_eq_some_iff.1 h
  unfold sortS
  rw [List.take_succ_eq_append_getElem hk, List.foldl_append]
  rfl

set_option maxRecDepth 100000 in
set_option maxHeartbeats 1000000 in
theorem s.pnFull_m (w : World) (v : Value) (d : CoD) (vs : List Value) (x : ItD) (h : kC.rd w v d) (hok : kC.ok d) (hd : CodeOk d) (hx : kdItem.rd w w.heap.size vs x) (hi : ItOk d x) :
    Calls Tryz.prog 42 #[v, kdItem.val vs] w fun e w' => e = .returned (.int .i64 (fullF d (earlyD x))) ∧ Ext w w' := by
  obtain ⟨Ac, nc, cc, Al, nl, cl, rr, b, p, f, rfl⟩ := kC.shape h
  obtain ⟨A1, c1, A2, c2, rfl, h1, h2⟩ := kdItem.open_ hx
  rw [kdItem.val3]
  obtain ⟨W0, hW0⟩ : ∃ W0, Hid (W0 = (w.alloc (.cells #[.slice Ac nc cc, .slice Al nl cl, .int .i64 rr, .int .i64 b, .int .i64 p, .int .i64 f] 34)).alloc (.cells #[.slice A1 x.1.length c1, .slice A2 x.2.1.length c2, .bool false] 53)) := ⟨_, rfl⟩
  have X0 : Hid (Ext w W0) := by rw [hW0.out]; exact (Ext.alloc w _).trans (Ext.alloc _ _)
  have mk := kdItem.mk_ (d := earlyD x) (h1.ext X0.out (Nat.le_refl _)) (h2.ext X0.out (Nat.le_refl _))
  have BF := hide (s.bsFull_m W0 _ d _ (earlyD x) (kC.rd_ext h X0.out) hok hd (kdItem.rd_more mk X0.out.size) (itOk_early hi))
  rw [kdItem.val3] at BF
  have e1 : (earlyD x).1 = x.1 := rfl
  have e2 : (earlyD x).2.1 = x.2.1 := rfl
  have e3 : (earlyD x).2.2 = false := rfl
  rw [e1, e2, e3] at BF
  have a1 := h1.1; have a2 := h1.2.1; have a3 := h2.1; have a4 := h2.2.1
  clear e1 e2 e3 mk h hx h1 h2 hi
  generalize fullF d (earlyD x) = F at *
  generalize x.1.length = m1 at *
  generalize x.2.1.length = m2 at *
  generalize x.2.2 = m3 at *
  go_enter Tryz.func42, Tryz.ntmps42
  go_wp2_with fail
  rw [← hW0.out]
  clear hW0
  refine BF.out.mono ?_
  rintro e w1 ⟨rfl, x1⟩
  have X1 := hide (X0.out.trans x1)
  clear x1 BF
  go_wp2
  go_ret
  exact ⟨rfl, X1.out⟩
end Go.Proofs.YtiohjcadmahkgaaGreat
