/- Plain laws for the law of marks: an added judge is read and dropped again; grades counted add up; a text of marks is read back. -/
import Derived.Test.YtnokilofcdbjhaaGreatDoorJA
import Derived.Test.YtnokilofcdbjhaaGreatDoorMS
import Derived.Test.YtnokilofcdbjhaaGreatDoorMQ
import Derived.Test.YtnokilofcdbjhaaGreatDoorMG
import Derived.Test.YtnokilofcdbjhaaGreatDoorXE
import Derived.Test.YtnokilofcdbjhaaGreatDoorXH
namespace Go.Proofs.YtnokilofcdbjhaaGreatDoor
open Go.RowKit Go.Sort
set_option linter.unusedVariables false

theorem addN_in (xs : List (List Int)) (zs : List Int) (j : Nat) (x : List Int) (hx : xs[j]? = some x) : ∀ k, k ≤ xs.length → j < k → (addN xs zs k)[j]? = some (x ++ [zs.getD j 0])
  | 0, _, h => absurd h (by omega)
  | k + 1, hk, h => by
    have hl := addN_len xs zs k
    by_cases e : j = k
    · subst e
      simp only [addN]
      rw [List.getElem?_set_self (by omega), List.getD_eq_getElem?_getD, addN_at xs zs j j (Nat.le_refl _), hx]
      rfl
    · simp only [addN]
      rw [List.getElem?_set_ne (by omega)]
      exact addN_in xs zs j x hx k (by omega) (by omega)
theorem addN_zip (xs : List (List Int)) (zs : List Int) (h : zs.length = xs.length) : addN xs zs zs.length = List.zipWith (fun x z => x ++ [z]) xs zs := by
  apply List.ext_getElem?
  intro j
  by_cases hj : j < xs.length
  · rw [addN_in xs zs j xs[j] (List.getElem?_eq_getElem hj) _ (by omega) (by omega), List.getElem?_zipWith, List.getElem?_eq_getElem hj, List.getElem?_eq_getElem (by omega : j < zs.length), List.getD_eq_getElem?_getD, List.getElem?_eq_getElem (by omega : j < zs.length)]
    rfl
  · rw [List.getElem?_eq_none (by rw [addN_len]; omega), List.getElem?_eq_none (by simp; omega)]
theorem zip_col {J : Nat} : ∀ (xs : List (List Int)) (zs : List Int), zs.length = xs.length → (∀ x ∈ xs, x.length = J) → colF (List.zipWith (fun x z => x ++ [z]) xs zs) J = zs
  | [], [], _, _ => rfl
  | [], _ :: _, h, _ => by simp at h
  | _ :: _, [], h, _ => by simp at h
  | x :: xs, z :: zs, h, hl => by
    have ih := zip_col xs zs (by simpa using h) (fun y hy => hl y (List.mem_cons_of_mem _ hy))
    have e := hl x (List.mem_cons_self ..)
    unfold colF at ih ⊢
    rw [List.zipWith_cons_cons, List.map_cons, ih]
    simp [List.getD_eq_getElem?_getD, ← e]
theorem zip_cut {J : Nat} : ∀ (xs : List (List Int)) (zs : List Int), zs.length = xs.length → (∀ x ∈ xs, x.length = J) → (List.zipWith (fun x z => x ++ [z]) xs zs).map (cutJ J) = xs
  | [], [], _, _ => rfl
  | [], _ :: _, h, _ => by simp at h
  | _ :: _, [], h, _ => by simp at h
  | x :: xs, z :: zs, h, hl => by
    have ih := zip_cut xs zs (by simpa using h) (fun y hy => hl y (List.mem_cons_of_mem _ hy))
    have e := hl x (List.mem_cons_self ..)
    rw [List.zipWith_cons_cons, List.map_cons, ih]
    simp [cutJ, ← e]
/-- The last judge of marks that one was added to. -/
theorem aj_back {d : MD} {gs cs : List Int} (h : (addJudgeF d gs cs).2 = true) : judgesOfF (addJudgeF d gs cs).1 = ((judges d : Int) + 1, true) ∧ judges d ≤ 9 ∧ judgeMarksF (addJudgeF d gs cs).1 (judges d) = (gs, cs, true) ∧ dropJudgeF (addJudgeF d gs cs).1 (judges d) = (d, true) := by
  unfold addJudgeF at h ⊢
  split at h
  · rename_i hc
    rw [if_pos hc]
    have hif := ifMarks_true h
    simp only [Bool.and_eq_true, decide_eq_true_eq] at hc
    obtain ⟨⟨hm, h1⟩, h2⟩ := hc
    have r := marksB_ok hm
    have h3 : cs.length = d.2.length := by rw [h2, r.2.1]
    rw [hif.2]
    have e1 := addN_zip d.1 gs h1
    have e2 := addN_zip d.2 cs h3
    rw [e1, e2] at hif ⊢
    have z1 := zip_col d.1 gs h1 (fun x hx => (r.2.2.2.2.1 x hx).1)
    have z2 := zip_col d.2 cs h3 (fun x hx => (r.2.2.2.2.2 x hx).1)
    have z3 := zip_cut d.1 gs h1 (fun x hx => (r.2.2.2.2.1 x hx).1)
    have z4 := zip_cut d.2 cs h3 (fun x hx => (r.2.2.2.2.2 x hx).1)
    have hJ : judges (List.zipWith (fun x z => x ++ [z]) d.1 gs, List.zipWith (fun x z => x ++ [z]) d.2 cs) = judges d + 1 := by
      have l2 := r.2.1
      show (List.getD (List.zipWith (fun x z => x ++ [z]) d.2 cs) 0 []).length = (List.getD d.2 0 []).length + 1
      rw [List.getD_eq_getElem?_getD, List.getD_eq_getElem?_getD, List.getElem?_zipWith, List.getElem?_eq_getElem (by omega : 0 < d.2.length), List.getElem?_eq_getElem (by omega : 0 < cs.length)]
      simp
    have hh := hasJudge_of (k := judges d) hif.1 (by rw [hJ]; omega)
    refine ⟨?_, r.2.2.2.1, ?_, ?_⟩
    · unfold judgesOfF
      rw [hif.1, hJ]
      simp
    · unfold judgeMarksF
      rw [hh]
      simp only [if_true, Int.toNat_natCast]
      rw [z1, z2]
    · unfold dropJudgeF
      rw [hh]
      simp only [if_true, Int.toNat_natCast]
      rw [z3, z4]
      exact ifMarks_of hm
  · simp at h
theorem aj_none {d : MD} {gs cs : List Int} : (addJudgeF d gs cs).2 = true → marksB d = true := by
  unfold addJudgeF
  intro h
  split at h
  · rename_i hc
    simp only [Bool.and_eq_true] at hc
    exact hc.1.1
  · simp at h

theorem set_sum (o : List Int) (i : Nat) (z : Int) (h : i < o.length) : (o.set i (o.getD i 0 + z)).sum = o.sum + z := by
  induction o generalizing i with
  | nil => simp at h
  | cons x t ih =>
    cases i with
    | zero => simp; omega
    | succ i =>
      have := ih i (by simpa using h)
      simp only [List.set_cons_succ, List.getD_cons_succ, List.sum_cons]
      omega
theorem accR_sum {row o : List Int} (h : o.length = 11) (hr : ∀ z ∈ row, -5 ≤ z ∧ z ≤ 5) : ∀ j, j ≤ row.length → (accR ixG adG row o j).sum = o.sum + j ∧ (accR ixG adG row o j).length = 11
  | 0, _ => by simp [accR, h]
  | j + 1, hj => by
    have ih := accR_sum h hr j (by omega)
    have hz := hr (row.getD j 0) (by rw [List.getD_eq_getElem?_getD, List.getElem?_eq_getElem (by omega)]; exact List.getElem_mem _)
    have hi : (row.getD j 0 + 5).toNat < (accR ixG adG row o j).length := by rw [ih.2]; omega
    simp only [accR, accS, ixG, adG]
    rw [set_sum _ _ _ hi, List.length_set, ih.1, ih.2]
    exact ⟨by omega, rfl⟩
theorem accA_sum {J : Nat} {rows : List (List Int)} (hr : ∀ r ∈ rows, r.length = J ∧ ∀ z ∈ r, -5 ≤ z ∧ z ≤ 5) : ∀ k, k ≤ rows.length → (accA ixG adG rows (List.replicate 11 0) k).sum = (J : Int) * k ∧ (accA ixG adG rows (List.replicate 11 0) k).length = 11
  | 0, _ => by simp [accA]
  | k + 1, hk => by
    have ih := accA_sum hr k (by omega)
    have hm : rows.getD k [] ∈ rows := by rw [List.getD_eq_getElem?_getD, List.getElem?_eq_getElem (by omega)]; exact List.getElem_mem _
    have q := hr _ hm
    have r := accR_sum ih.2 q.2 (rows.getD k []).length (Nat.le_refl _)
    simp only [accA]
    refine ⟨?_, r.2⟩
    rw [r.1, ih.1, q.1]
    push_cast
    rw [Int.mul_add]
    omega
/-- Grades counted add up; each count is small. -/
theorem counts_sum {d : MD} (h : marksB d = true) : (countGradesF d).1.sum = (judges d : Int) * (d.1.length : Int) ∧ Small (countGradesF d).1 ∧ (countGradesF d).1.length = 11 := by
  have r := marksB_ok h
  have a := accA_sum (rows := d.1) r.2.2.2.2.1 d.1.length (Nat.le_refl _)
  have i := accA_inv (ix := ixG) (ad := adG) (rows := d.1) (accI_zero 11) (fun x hx => ⟨by have := (r.2.2.2.2.1 x hx).1; omega, fun z _ => by unfold adG; omega⟩) d.1.length (Nat.le_refl _)
  unfold countGradesF
  rw [if_pos h]
  refine ⟨a.1, fun z hz => ?_, a.2⟩
  obtain ⟨k, hk, rfl⟩ := List.mem_iff_getElem.1 hz
  have := i.2 k
  rw [List.getD_eq_getElem?_getD, List.getElem?_eq_getElem hk, Option.getD_some] at this
  omega
theorem marksT_small {d : MD} (h : marksB d = true) : (marksT d).length ≤ 180000 := by
  have r1 := marksB_ok h
  refine marksT_len (by omega) r1.2.1 (fun r hr => ?_) (fun r hr => ?_)
  · have := r1.2.2.2.2.1 r hr
    exact ⟨by have := r1.2.2.2.1; omega, fun x hx => by have := this.2 x hx; omega⟩
  · have := r1.2.2.2.2.2 r hr
    exact ⟨by have := r1.2.2.2.1; omega, fun x hx => by have := this.2 x hx; omega⟩
theorem parse_back {d : MD} (h : marksB d = true) : parseF (marksT d) = (d, true) := parseF_some h rfl
theorem parse_ok {s : List UInt8} (h : (parseF s).2 = true) : marksB (parseF s).1 = true := by
  by_cases q : ∃ m : MD, marksB m = true ∧ marksT m = s
  · obtain ⟨m, h1, h2⟩ := q
    rw [parseF_some h1 h2]
    exact h1
  · rw [parseF_none (fun m h1 h2 => q ⟨m, h1, h2⟩)] at h
    simp at h
end Go.Proofs.YtnokilofcdbjhaaGreatDoor
