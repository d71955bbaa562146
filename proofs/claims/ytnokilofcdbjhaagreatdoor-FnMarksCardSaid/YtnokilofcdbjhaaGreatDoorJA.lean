/- Judges, plainly: what is set is read and set back, what is swapped is swapped back, who is dropped is gone. -/
import Derived.Test.YtnokilofcdbjhaaGreatDoorGM
import Derived.Test.YtnokilofcdbjhaaGreatDoorMR
namespace Go.Proofs.YtnokilofcdbjhaaGreatDoor
open Go.RowKit Go.Sort
set_option linter.unusedVariables false

theorem ifMarks_true {d : MD} (h : (ifMarks d).2 = true) : marksB d = true ∧ ifMarks d = (d, true) := by
  unfold ifMarks at h ⊢
  cases hm : marksB d
  · rw [hm] at h; simp at h
  · simp
theorem ifMarks_of {d : MD} (h : marksB d = true) : ifMarks d = (d, true) := by unfold ifMarks; rw [h]; rfl
theorem hasJudge_of {d : MD} {k : Nat} (h : marksB d = true) (hk : k < judges d) : hasJudge d (k : Int) = true := by
  simp only [hasJudge, inB, Bool.and_eq_true, decide_eq_true_eq]
  exact ⟨h, by omega, by omega⟩
theorem set_back (x : List Int) (j : Nat) (z : Int) (hj : j < x.length) : (x.set j z).set j (x.getD j 0) = x := by
  rw [List.set_set, List.getD_eq_getElem?_getD, List.getElem?_eq_getElem hj, Option.getD_some, List.set_getElem_self]
theorem setL_back (xs : List (List Int)) (i j : Nat) (x : List Int) (z : Int) (hx : xs[i]? = some x) (hj : j < x.length) : (xs.set i (x.set j z)).set i (((xs.set i (x.set j z)).getD i []).set j (x.getD j 0)) = xs := by
  obtain ⟨hi, rfl⟩ := List.getElem?_eq_some_iff.1 hx
  have e : (xs.set i (xs[i].set j z)).getD i [] = xs[i].set j z := by rw [List.getD_eq_getElem?_getD, List.getElem?_set_self hi]; rfl
  rw [e, set_back _ _ _ hj, List.set_set, List.set_getElem_self]
theorem marks_rng {d : MD} (h : marksB d = true) : (∀ x ∈ d.1, ∀ z ∈ x, InR z) ∧ (∀ x ∈ d.2, ∀ z ∈ x, InR z) := by
  obtain ⟨_, _, _, _, h5, h6⟩ := marksB_ok h
  exact ⟨fun x hx z hz => by have := (h5 x hx).2 z hz; unfold InR; omega, fun x hx z hz => by have := (h6 x hx).2 z hz; unfold InR; omega⟩
theorem getD_rng {x : List Int} {j : Nat} (h : ∀ z ∈ x, InR z) (hj : j < x.length) : InR (x.getD j 0) := by
  rw [List.getD_eq_getElem?_getD, List.getElem?_eq_getElem hj, Option.getD_some]
  exact h _ (List.getElem_mem hj)
theorem getD_set_self {x : List Int} {j : Nat} (z : Int) (hj : j < x.length) : (x.set j z).getD j 0 = z := by
  rw [List.getD_eq_getElem?_getD, List.getElem?_set_self hj, Option.getD_some]

theorem sg_back {d : MD} {k j z : Int} (h : (setGradeF d k j z).2 = true) : ∃ (i jj : Nat) (x : List Int), k = i ∧ j = jj ∧ d.1[i]? = some x ∧ jj < x.length ∧ (setGradeF d k j z) = (setG d i jj z, true) ∧ setGradeF (setG d i jj z) k j (x.getD jj 0) = (d, true) ∧ (setG d i jj z).1[i]? = some (x.set jj z) ∧ InR (x.getD jj 0) ∧ i < 14 ∧ x.length ≤ 9 := by
  unfold setGradeF at h
  cases hg : (hasJudge d j && inB 0 ((d.1.length : Int) - 1) k)
  · rw [hg] at h; simp at h
  rw [hg] at h
  have hif := ifMarks_true h
  simp only [Bool.and_eq_true, inB, decide_eq_true_eq] at hg
  obtain ⟨hm, jj, rfl, hjj⟩ := hasJudge_ok hg.1
  obtain ⟨i, rfl⟩ : ∃ i : Nat, k = i := ⟨k.toNat, by omega⟩
  have hi : i < d.1.length := by omega
  have hr := rows_ok hm hjj
  have hxl := hr.1 _ (List.getElem_mem hi)
  have hx : d.1[i]? = some d.1[i] := List.getElem?_eq_getElem hi
  rw [Int.toNat_natCast, Int.toNat_natCast] at hif
  have hG : setG d i jj z = (d.1.set i (d.1[i].set jj z), d.2) := by
    unfold setG
    rw [List.getD_eq_getElem?_getD, hx]
    rfl
  have h14 := (marksB_ok hm).1
  refine ⟨i, jj, d.1[i], rfl, rfl, hx, hxl.1, ?_, ?_, ?_, getD_rng ((marks_rng hm).1 _ (List.getElem_mem hi)) hxl.1, by omega, hxl.2⟩
  · unfold setGradeF
    rw [show (hasJudge d (jj : Int) && inB 0 ((d.1.length : Int) - 1) (i : Int)) = true by simp only [Bool.and_eq_true, inB, decide_eq_true_eq]; exact ⟨hg.1, by omega, by omega⟩]
    simp only [if_true, Int.toNat_natCast]
    exact hif.2
  · unfold setGradeF
    have hj2 : judges (setG d i jj z) = judges d := by rw [hG]; rfl
    rw [hasJudge_of hif.1 (by rw [hj2]; exact hjj)]
    rw [show inB 0 (((setG d i jj z).1.length : Int) - 1) (i : Int) = true by simp only [Bool.and_eq_true, inB, decide_eq_true_eq]; rw [hG]; simp only [List.length_set]; omega]
    simp only [Bool.and_self, if_true, Int.toNat_natCast]
    have e : setG (setG d i jj z) i jj (d.1[i].getD jj 0) = d := by
      rw [hG]
      unfold setG
      rw [setL_back d.1 i jj _ z hx hxl.1]
    rw [e, ifMarks_of hm]
  · rw [hG]
    exact List.getElem?_set_self hi
theorem sc_back {d : MD} {k j z : Int} (h : (setComponentF d k j z).2 = true) : ∃ (i jj : Nat) (x : List Int), k = i ∧ j = jj ∧ d.2[i]? = some x ∧ jj < x.length ∧ (setComponentF d k j z) = (setC d i jj z, true) ∧ setComponentF (setC d i jj z) k j (x.getD jj 0) = (d, true) ∧ (setC d i jj z).2[i]? = some (x.set jj z) ∧ InR (x.getD jj 0) ∧ i < 14 ∧ x.length ≤ 9 ∧ z.tmod 25 = 0 := by
  unfold setComponentF at h
  cases hg : (hasJudge d j && inB 0 2 k)
  · rw [hg] at h; simp at h
  rw [hg] at h
  have hif := ifMarks_true h
  simp only [Bool.and_eq_true, inB, decide_eq_true_eq] at hg
  obtain ⟨hm, jj, rfl, hjj⟩ := hasJudge_ok hg.1
  obtain ⟨i, rfl⟩ : ∃ i : Nat, k = i := ⟨k.toNat, by omega⟩
  have h3 := (marksB_ok hm).2.1
  have hi : i < d.2.length := by omega
  have hr := rows_ok hm hjj
  have hxl := hr.2 _ (List.getElem_mem hi)
  have hx : d.2[i]? = some d.2[i] := List.getElem?_eq_getElem hi
  rw [Int.toNat_natCast, Int.toNat_natCast] at hif
  have hG : setC d i jj z = (d.1, d.2.set i (d.2[i].set jj z)) := by
    unfold setC
    rw [List.getD_eq_getElem?_getD, hx]
    rfl
  have hrow : (setC d i jj z).2[i]? = some (d.2[i].set jj z) := by
    rw [hG]
    exact List.getElem?_set_self hi
  have hz : z.tmod 25 = 0 := by
    have h6 := (marksB_ok hif.1).2.2.2.2.2 _ (List.mem_of_getElem? hrow)
    exact (h6.2 z (List.mem_of_getElem? (List.getElem?_set_self hxl.1))).2.2
  refine ⟨i, jj, d.2[i], rfl, rfl, hx, hxl.1, ?_, ?_, hrow, getD_rng ((marks_rng hm).2 _ (List.getElem_mem hi)) hxl.1, by omega, hxl.2, hz⟩
  · unfold setComponentF
    rw [show (hasJudge d (jj : Int) && inB 0 2 (i : Int)) = true by simp only [Bool.and_eq_true, inB, decide_eq_true_eq]; exact ⟨hg.1, by omega, by omega⟩]
    simp only [if_true, Int.toNat_natCast]
    exact hif.2
  · unfold setComponentF
    have hj2 : judges (setC d i jj z) = judges d := by
      rw [hG]
      unfold judges
      rw [List.getD_eq_getElem?_getD, List.getD_eq_getElem?_getD, List.getElem?_set]
      by_cases h0 : i = 0
      · subst h0
        rw [if_pos rfl, if_pos hi, hx]
        simp
      · rw [if_neg h0]
    rw [hasJudge_of hif.1 (by rw [hj2]; exact hjj)]
    rw [show inB 0 2 (i : Int) = true by simp only [Bool.and_eq_true, inB, decide_eq_true_eq]; omega]
    simp only [Bool.and_self, if_true, Int.toNat_natCast]
    have e : setC (setC d i jj z) i jj (d.2[i].getD jj 0) = d := by
      rw [hG]
      unfold setC
      rw [setL_back d.2 i jj _ z hx hxl.1]
    rw [e, ifMarks_of hm]

theorem dj_back {d : MD} {j : Int} (h : (dropJudgeF d j).2 = true) : judgesOfF d = ((judges d : Int), true) ∧ judgesOfF (dropJudgeF d j).1 = ((judges d : Int) - 1, true) ∧ judges d ≤ 9 := by
  unfold dropJudgeF at h ⊢
  cases hg : hasJudge d j
  · rw [hg] at h; simp at h
  rw [hg] at h
  simp only [if_true] at h ⊢
  have hif := ifMarks_true h
  obtain ⟨hm, jj, rfl, hjj⟩ := hasJudge_ok hg
  rw [hif.2]
  have hJ : judges (d.1.map (cutJ (jj : Int).toNat), d.2.map (cutJ (jj : Int).toNat)) = judges d - 1 := by
    have h3 := (marksB_ok hm).2.1
    unfold judges
    unfold judges at hjj
    rw [List.getD_eq_getElem?_getD, List.getElem?_eq_getElem (by omega), Option.getD_some] at hjj
    rw [List.getD_eq_getElem?_getD, List.getD_eq_getElem?_getD, List.getElem?_map, List.getElem?_eq_getElem (by omega)]
    simp only [Option.map_some, Option.getD_some, Int.toNat_natCast, cutJ, List.length_append, List.length_take, List.length_drop]
    omega
  refine ⟨by unfold judgesOfF; rw [hm]; rfl, ?_, (marksB_ok hm).2.2.2.1⟩
  unfold judgesOfF
  rw [hif.1, hJ]
  simp only [if_true, Prod.mk.injEq, and_true]
  omega

theorem swapJ_back (a b : Nat) (x : List Int) (ha : a < x.length) (hb : b < x.length) : swapJ b a (swapJ a b x) = x := by
  have e1 : (swapJ a b x).getD a 0 = x.getD b 0 := by
    unfold swapJ
    rw [List.getD_eq_getElem?_getD, List.getElem?_set]
    by_cases h : b = a
    · subst h
      rw [if_pos rfl, if_pos (by simpa using hb)]
      rfl
    · rw [if_neg h, List.getElem?_set_self ha]
      rfl
  have e2 : (swapJ a b x).getD b 0 = x.getD a 0 := by
    unfold swapJ
    rw [List.getD_eq_getElem?_getD, List.getElem?_set_self (by simpa using hb)]
    rfl
  have e3 : swapJ b a (swapJ a b x) = ((swapJ a b x).set b (x.getD b 0)).set a (x.getD a 0) := by
    show ((swapJ a b x).set b ((swapJ a b x).getD a 0)).set a ((swapJ a b x).getD b 0) = _
    rw [e1, e2]
  rw [e3]
  unfold swapJ
  rw [List.set_set]
  by_cases h : b = a
  · subst h
    rw [List.set_set, List.set_set, List.getD_eq_getElem?_getD, List.getElem?_eq_getElem hb, Option.getD_some, List.set_getElem_self]
  · rw [List.set_comm _ _ (Ne.symm h), List.set_set]
    have eb : x.set b (x.getD b 0) = x := by rw [List.getD_eq_getElem?_getD, List.getElem?_eq_getElem hb, Option.getD_some, List.set_getElem_self]
    have ea : x.set a (x.getD a 0) = x := by rw [List.getD_eq_getElem?_getD, List.getElem?_eq_getElem ha, Option.getD_some, List.set_getElem_self]
    rw [eb, ea]
theorem swapJ_self (a : Nat) (x : List Int) (ha : a < x.length) : swapJ a a x = x := by
  unfold swapJ
  rw [List.set_set, List.getD_eq_getElem?_getD, List.getElem?_eq_getElem ha, Option.getD_some, List.set_getElem_self]
theorem swapJ_mem {a b : Nat} {x : List Int} {z : Int} (ha : a < x.length) (hb : b < x.length) (h : z ∈ swapJ a b x) : z ∈ x := by
  have ga : x.getD a 0 ∈ x := by rw [List.getD_eq_getElem?_getD, List.getElem?_eq_getElem ha, Option.getD_some]; exact List.getElem_mem ha
  have gb : x.getD b 0 ∈ x := by rw [List.getD_eq_getElem?_getD, List.getElem?_eq_getElem hb, Option.getD_some]; exact List.getElem_mem hb
  unfold swapJ at h
  rcases List.mem_or_eq_of_mem_set h with h | rfl
  · rcases List.mem_or_eq_of_mem_set h with h | rfl
    · exact h
    · exact gb
  · exact ga
theorem swapped_marks {d : MD} {a b : Nat} (hm : marksB d = true) (ha : a < judges d) (hb : b < judges d) : marksB (d.1.map (swapJ a b), d.2.map (swapJ a b)) = true ∧ judges (d.1.map (swapJ a b), d.2.map (swapJ a b)) = judges d := by
  have ra := rows_ok hm ha
  have rb := rows_ok hm hb
  have h3 := (marksB_ok hm).2.1
  have hJ : judges (d.1.map (swapJ a b), d.2.map (swapJ a b)) = judges d := by
    unfold judges
    rw [List.getD_eq_getElem?_getD, List.getD_eq_getElem?_getD, List.getElem?_map, List.getElem?_eq_getElem (by omega)]
    simp only [Option.map_some, Option.getD_some, swapJ_len]
  refine ⟨?_, hJ⟩
  unfold marksB at hm ⊢
  rw [hJ]
  simp only [Bool.and_eq_true, List.all_eq_true, List.length_map] at hm ⊢
  refine ⟨⟨hm.1.1, fun y hy => ?_⟩, fun y hy => ?_⟩
  · obtain ⟨x, hx, rfl⟩ := List.mem_map.1 hy
    have h5 := hm.1.2 x hx
    simp only [okRow, Bool.and_eq_true, List.all_eq_true, decide_eq_true_eq] at h5 ⊢
    exact ⟨by rw [swapJ_len]; exact h5.1, fun z hz => h5.2 z (swapJ_mem (ra.1 x hx).1 (rb.1 x hx).1 hz)⟩
  · obtain ⟨x, hx, rfl⟩ := List.mem_map.1 hy
    have h5 := hm.2 x hx
    simp only [okComp, Bool.and_eq_true, List.all_eq_true, decide_eq_true_eq] at h5 ⊢
    exact ⟨by rw [swapJ_len]; exact h5.1, fun z hz => h5.2 z (swapJ_mem (ra.2 x hx).1 (rb.2 x hx).1 hz)⟩
theorem map_id_of {xs : List (List Int)} {f : List Int → List Int} (h : ∀ x ∈ xs, f x = x) : xs.map f = xs := by
  have := List.map_congr_left (f := f) (g := id) (l := xs) (fun x hx => h x hx)
  rw [this, List.map_id]
theorem sw_back {d : MD} {a b : Int} (h : (swapJudgesF d a b).2 = true) : swapJudgesF (swapJudgesF d a b).1 b a = (d, true) ∧ (a = b → (swapJudgesF d a b).1 = d) := by
  unfold swapJudgesF at h
  cases hg : (hasJudge d a && hasJudge d b)
  · rw [hg] at h; simp at h
  have hS : swapJudgesF d a b = ((d.1.map (swapJ a.toNat b.toNat), d.2.map (swapJ a.toNat b.toNat)), true) := by unfold swapJudgesF; rw [hg]; rfl
  rw [hS]
  simp only [Bool.and_eq_true] at hg
  obtain ⟨hm, ja, rfl, hja⟩ := hasJudge_ok hg.1
  obtain ⟨_, jb, rfl, hjb⟩ := hasJudge_ok hg.2
  simp only [Int.toNat_natCast] at hS ⊢
  have ra := rows_ok hm hja
  have rb := rows_ok hm hjb
  have sm := swapped_marks hm hja hjb
  constructor
  · unfold swapJudgesF
    rw [hasJudge_of sm.1 (by rw [sm.2]; exact hjb), hasJudge_of sm.1 (by rw [sm.2]; exact hja)]
    simp only [Bool.and_self, if_true, Int.toNat_natCast, List.map_map, Prod.mk.injEq, and_true]
    refine Prod.ext (map_id_of fun x hx => swapJ_back _ _ _ (ra.1 x hx).1 (rb.1 x hx).1) (map_id_of fun x hx => swapJ_back _ _ _ (ra.2 x hx).1 (rb.2 x hx).1)
  · intro e
    obtain rfl : ja = jb := by omega
    exact Prod.ext (map_id_of fun x hx => swapJ_self _ _ (ra.1 x hx).1) (map_id_of fun x hx => swapJ_self _ _ (ra.2 x hx).1)
end Go.Proofs.YtnokilofcdbjhaaGreatDoor
