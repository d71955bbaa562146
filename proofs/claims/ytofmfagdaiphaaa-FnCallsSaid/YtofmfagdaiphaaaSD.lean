/- One vote of a sheet stored; what VoteCall and AddReview answer. -/
import Derived.Test.YtofmfagdaiphaaaSC
import Derived.Test.YtofmfagdaiphaaaNY
namespace Go.Proofs.Ytofmfagdaiphaaa
open Go.RowKit Go.Sort
set_option linter.unusedVariables false

theorem sheetB_wt {d : ShD} (h : sheetB d = true) : wtL kdItem d.1 ≤ 308 ∧ wtL kdLL d.2.1 ≤ 171 ∧ wtL kdRv d.2.2 ≤ 20 ∧ d.1.length ≤ 14 ∧ d.2.1.length = 3 ∧ d.2.2.length ≤ 20 := by
  have h3 := sheetB_votes h
  have hr : ∀ v ∈ d.2.1, v.length = d.1.length ∧ ∀ i, i < d.1.length → (v.getD i []).length = (namesAt d.1 i).length := fun v hv => sheetB_rows h hv
  simp only [sheetB, Bool.and_eq_true, decide_eq_true_eq] at h
  have hc := cleanB_items h.1.1.1.1
  have hw := itemsB_wt hc
  have h20 : d.2.2.length ≤ 20 := by have := h.1.1.2; omega
  have hn3 : ∀ i, i < d.1.length → (namesAt d.1 i).length ≤ 3 := fun i hi => by
    simp only [itemsB, Bool.and_eq_true, List.all_eq_true] at hc
    rw [namesAt_some (List.getElem?_eq_getElem hi)]
    have := itemB_ok (hc.1 _ (List.getElem_mem hi))
    omega
  have hv : ∀ v ∈ d.2.1, kdLL.wt v ≤ 56 := fun v hv => by
    obtain ⟨e1, e2⟩ := hr v hv
    have h1 : wtL kdL v ≤ v.length * (1 + 3) := wtL_leS kdL 3 v (fun y hy => by
      obtain ⟨i, hi, rfl⟩ := List.getElem_of_mem hy
      have e3 := e2 i (by omega)
      rw [List.getD_eq_getElem?_getD, List.getElem?_eq_getElem hi, Option.getD_some] at e3
      have e4 := hn3 i (by omega)
      have e5 : kdL.wt v[i] = v[i].length := wtL_int _
      omega)
    have h2 : kdLL.wt v = wtL kdL v := rfl
    omega
  have hv2 := wtL_leS kdLL 56 d.2.1 hv
  have hr2 : wtL kdRv d.2.2 = d.2.2.length := wtL_rv _
  omega
theorem kSm_ok {d : ShD} (h1 : wtL kdItem d.1 ≤ 1000) (h2 : wtL kdLL d.2.1 ≤ 1000) (h3 : wtL kdRv d.2.2 ≤ 1000) : kSm.ok d := by
  show kdSh.wt d ≤ 1048576
  rw [kdSh.wt_eq]
  have e1 : kdItS.wt d.1 = wtL kdItem d.1 := rfl
  have e2 : kdLLL.wt d.2.1 = wtL kdLL d.2.1 := rfl
  have e3 : kdRvS.wt d.2.2 = wtL kdRv d.2.2 := rfl
  omega
def setV (vs : List (List (List Int))) (cl i k : Nat) (m : Int) : List (List (List Int)) := vs.set cl ((vs.getD cl []).set i (((vs.getD cl []).getD i []).set k m))
def voteCF (d : ShD) (cl item name mark : Int) : ShD × Bool := if sheetB d && inB 0 2 cl && hasName d.1 item name && inB (-1) 3 mark then ((d.1, setV d.2.1 cl.toNat item.toNat name.toNat mark, d.2.2), true) else (noSheet, false)
theorem wtL_setS {α : Type} (K : Kd α) : ∀ (xs : List α) (k : Nat) (x y : α), xs[k]? = some x → K.wt y = K.wt x → wtL K (xs.set k y) = wtL K xs
  | [], k, x, y, h, _ => by simp at h
  | z :: t, 0, x, y, h, e => by
    simp at h
    subst h
    show 1 + K.wt y + wtL K t = 1 + K.wt z + wtL K t
    rw [e]
  | z :: t, k + 1, x, y, h, e => by
    simp at h
    show 1 + K.wt z + wtL K (t.set k y) = 1 + K.wt z + wtL K t
    rw [wtL_setS K t k x y h e]
theorem inB_okV {lo hi n : Int} (h : inB lo hi n = true) : lo ≤ n ∧ n ≤ hi := by
  simpa only [inB, Bool.and_eq_true, decide_eq_true_eq] using h
theorem setV_wt (vs : List (List (List Int))) (cl i k : Nat) (m : Int) : wtL kdLL (setV vs cl i k m) = wtL kdLL vs := by
  unfold setV
  cases hv : vs[cl]? with
  | none =>
    rw [List.set_eq_of_length_le (by rw [List.getElem?_eq_none_iff] at hv; exact hv)]
  | some v =>
    rw [List.getD_eq_getElem?_getD, hv, Option.getD_some]
    refine wtL_setS kdLL vs cl v _ hv ?_
    show wtL kdL (v.set i _) = wtL kdL v
    cases hx : v[i]? with
    | none => rw [List.set_eq_of_length_le (by rw [List.getElem?_eq_none_iff] at hx; exact hx)]
    | some x =>
      rw [List.getD_eq_getElem?_getD, hx, Option.getD_some]
      refine wtL_setS kdL v i x _ hx ?_
      have e1 : kdL.wt (x.set k m) = (x.set k m).length := wtL_int _
      have e2 : kdL.wt x = x.length := wtL_int _
      rw [e1, e2, List.length_set]
theorem voteCF_ok (d : ShD) (cl item name mark : Int) : kSm.ok (voteCF d cl item name mark).1 := by
  unfold voteCF
  split
  · rename_i h
    simp only [Bool.and_eq_true] at h
    have := sheetB_wt h.1.1.1
    refine kSm_ok (by show wtL kdItem d.1 ≤ 1000; omega) ?_ (by show wtL kdRv d.2.2 ≤ 1000; omega)
    show wtL kdLL (setV _ _ _ _ _) ≤ 1000
    rw [setV_wt]
    omega
  · exact Nat.zero_le _

/-- One vote: where it lies, and what a store there leaves. -/
theorem LO.spotV {w : World} {A : Option Addr} {c : Nat} {vs : List (List (List Int))} {fp : List Nat} (h : LO kdLL 43 w A c vs fp) (k i j : Nat) (v : List (List Int)) (x : List Int) (hv : vs[k]? = some v) (hx : v[i]? = some x) (hj : j < x.length) :
    ∃ g g1 c1 g2 c2, A = some ⟨g, 0, none⟩ ∧ w.cell? ⟨g, k, none⟩ = some (.slice (some ⟨g1, 0, none⟩) v.length c1) ∧ v.length ≤ c1 ∧ c1 ≤ 9223372036854775807 ∧ w.cell? ⟨g1, i, none⟩ = some (.slice (some ⟨g2, 0, none⟩) x.length c2) ∧ x.length ≤ c2 ∧ c2 ≤ 9223372036854775807 ∧
      w.cell? ⟨g2, j, none⟩ = some (.int .i64 (x.getD j 0)) ∧ w.frozen? ⟨g2, j, none⟩ = false ∧ g2 ∈ fp ∧ ∀ z, LO kdLL 43 (w.setCell ⟨g2, j, none⟩ (.int .i64 z)) A c (vs.set k (v.set i (x.set j z))) fp := by
  obtain ⟨g, cs, f, hat⟩ := h.at_ k v hv
  obtain ⟨A1, c1, rfl, l1⟩ := hat.own
  obtain ⟨g1, cs1, f1, hat1⟩ := l1.at_ i x hx
  obtain ⟨A2, c2, rfl, l2⟩ := hat1.own
  obtain ⟨o2, hf2⟩ := l2.own
  obtain ⟨g2, rfl, _, _, hc⟩ := o2.pos (by omega)
  have hm2 : g2 ∈ f1 := by rw [hf2]; simp
  have hm1 : g2 ∈ f := (hat1.sub g2 hm2).1
  have ck := hat.cell 0 _ rfl
  rw [show k * kdLL.size + 0 = k from by show k * 1 + 0 = k; omega, hat1.addr] at ck
  have ci := hat1.cell 0 _ rfl
  rw [show i * kdL.size + 0 = i from by show i * 1 + 0 = i; omega] at ci
  refine ⟨g, g1, c1, g2, c2, hat.addr, ck, l1.cap.1, l1.cap.2, ci, hc, o2.capm, o2.cell j hj, o2.free j, (hat.sub g2 hm1).1, fun z => ?_⟩
  have o3 := (o2.set j z).lo_
  have t1 : TchF f1 w (w.setCell ⟨g2, j, none⟩ (.int .i64 z)) := TchF.set1 _ _ _ hm2
  have hr : kdL.own (w.setCell ⟨g2, j, none⟩ (.int .i64 z)) [.slice (some ⟨g2, 0, none⟩) x.length c2] (x.set j z) f1 := by
    refine ⟨some ⟨g2, 0, none⟩, c2, by rw [List.length_set], ?_⟩
    rw [hf2]
    exact o3
  have hl1 := hat1.inplace _ (x.set j z) hr t1
  have hv1 : kdLL.own (w.setCell ⟨g2, j, none⟩ (.int .i64 z)) [.slice A1 v.length c1] (v.set i (x.set j z)) f := ⟨A1, c1, by rw [List.length_set], hl1⟩
  exact hat.inplace _ _ hv1 (t1.more fun q hq => (hat1.sub q hq).1)
end Go.Proofs.Ytofmfagdaiphaaa
