/- Plain laws on plans: the best single programme is a programme that stays in its order; how many single items there are, and in how many ways. -/
import Derived.Test.YtegoapdbpfhkiaaGreatGK
import Derived.Test.YtegoapdbpfhkiaaGreatGX
import Derived.Test.YtegoapdbpfhkiaaGreatGP
namespace Go.Proofs.YtegoapdbpfhkiaaGreat
open Go.RowKit Go.Sort
set_option linter.unusedVariables false

/-! ### Choices -/
theorem bin_pos : ∀ (n k : Nat), k ≤ n → 0 < bin n k
  | n, 0, _ => by rw [bin_zero]; exact Nat.one_pos
  | 0, k + 1, h => absurd h (by omega)
  | n + 1, k + 1, h => by rw [bin_succ]; exact Nat.add_pos_left (bin_pos n k (by omega)) _
theorem sumTo_pos (g : Nat → Nat) (n : Nat) : 0 < sumTo g n ↔ ∃ i, i < n ∧ 0 < g i := by
  induction n with
  | zero => simp [sumTo]
  | succ n ih =>
    rw [sumTo]
    constructor
    · intro h
      by_cases h1 : 0 < sumTo g n
      · obtain ⟨i, hi, hg⟩ := ih.1 h1
        exact ⟨i, by omega, hg⟩
      · exact ⟨n, by omega, by omega⟩
    · rintro ⟨i, hi, hg⟩
      by_cases e : i = n
      · subst e; omega
      · have := ih.2 ⟨i, by omega, hg⟩
        omega
theorem wayN_pos (sz lm : Nat → Nat) (f x : Nat) : 0 < wayN sz lm f x ↔ x ≤ sumTo (fun i => min (sz i) (lm i)) f := by
  induction f generalizing x with
  | zero => unfold wayN sumTo; split <;> omega
  | succ f ih =>
    rw [sumTo]
    show 0 < conv (wayN sz lm f) (sz f) (lm f) x ↔ _
    unfold conv
    rw [sumTo_pos]
    constructor
    · rintro ⟨j, hj, hp⟩
      have h1 := Nat.pos_of_mul_pos_right hp
      have h2 := Nat.pos_of_mul_pos_left hp
      have h3 := (ih (x - j)).1 (by first | exact h1 | exact h2)
      have h4 : j ≤ sz f := by
        apply Classical.byContradiction
        intro hn
        have h0 := bin_gt (sz f) j (by omega)
        first | omega | (rw [h0] at h1; omega) | (rw [h0] at h2; omega)
      omega
    · intro h
      refine ⟨min x (min (sz f) (lm f)), by omega, Nat.mul_pos ((ih _).2 (by omega)) (bin_pos _ _ (by omega))⟩
theorem chosF_many {d : CoD} (hd : CodeOk d) (n : Nat) : (chosF d n).length = min n (totF (fitE d)) := by
  unfold chosF chF
  exact choosF_len (fun i _ => famE_lt hd i) n [] ⟨List.nodup_nil, by simp, fun f => by simp [cntF], by simp⟩ (by simp)
theorem tot_sum (d : CoD) : sumTo (fun i => min (szE d i) (limE d i)) 5 = totF (fitE d) := by
  simp only [sumTo, totF, fitE, szE]
  omega
theorem best_iff (d : CoD) (n : Int) : (bestF d n).2 = true ↔ codeB d = true ∧ 1 ≤ n ∧ n ≤ 14 ∧ n ≤ (totF (fitE d) : Nat) := by
  constructor
  · intro h
    obtain ⟨h1, h2, h3, -, h5⟩ := bestF_yes h
    rw [bestL_len, chosF_many (codeB_ok h1)] at h5
    exact ⟨h1, h2, h3, by omega⟩
  · rintro ⟨h1, h2, h3, h4⟩
    unfold bestF askB
    have hb : inB 1 14 n = true := by simp [inB]; omega
    rw [if_pos ⟨by rw [h1, hb]; rfl, by rw [chosF_many (codeB_ok h1)]; omega⟩]
/-- There is a best choice exactly if some are counted. -/
theorem count_best {d : CoD} {n : Int} (h : (countF d n).2 = true) : decide (0 < (countF d n).1) = (bestF d n).2 := by
  unfold countF at h ⊢
  split at h
  · next hc =>
    rw [if_pos hc]
    rw [Bool.and_eq_true] at hc
    have hn := inB_ok hc.2
    rw [Bool.eq_iff_iff, best_iff, decide_eq_true_eq]
    have hw := wayN_pos (szE d) (limE d) 5 n.toNat
    rw [tot_sum] at hw
    show (0 : Int) < ((wayN (szE d) (limE d) 5 n.toNat : Nat) : Int) ↔ _
    constructor
    · intro hp
      have := hw.1 (by omega)
      exact ⟨hc.1, hn.1, hn.2, by omega⟩
    · rintro ⟨-, -, -, h4⟩
      have := hw.2 (by omega)
      omega
  · simp at h
/-- As many single items as there are at most can be chosen, and no more. -/
theorem most_best {d : CoD} (h : (singF d).2 = true) (hp : 0 < (singF d).1) : (bestF d (singF d).1).2 = true ∧ ((singF d).1 < 14 → (bestF d ((singF d).1 + 1)).2 = false) := by
  unfold singF at h hp ⊢
  split at h
  · next hc =>
    rw [if_pos hc] at hp ⊢
    have hp : (0 : Int) < ((min 14 (totF (fitE d)) : Nat) : Int) := hp
    refine ⟨(best_iff _ _).2 ⟨hc, by show (1 : Int) ≤ ((min 14 (totF (fitE d)) : Nat) : Int); omega, by show ((min 14 (totF (fitE d)) : Nat) : Int) ≤ 14; omega, by show ((min 14 (totF (fitE d)) : Nat) : Int) ≤ _; omega⟩, fun hl => ?_⟩
    have hl : ((min 14 (totF (fitE d)) : Nat) : Int) < 14 := hl
    rw [Bool.eq_false_iff]
    intro hb
    have := ((best_iff _ _).1 hb).2.2.2
    have this : ((min 14 (totF (fitE d)) : Nat) : Int) + 1 ≤ _ := this
    omega
  · simp at h
theorem sing_bd (d : CoD) : 0 ≤ (singF d).1 ∧ (singF d).1 ≤ 14 := by
  unfold singF
  split
  · show (0 : Int) ≤ ((min 14 (totF (fitE d)) : Nat) : Int) ∧ ((min 14 (totF (fitE d)) : Nat) : Int) ≤ 14
    omega
  · exact ⟨Int.le_refl _, by decide⟩
theorem count_ok (d : CoD) (n : Int) : (bestF d n).2 = true → (countF d n).2 = true := by
  intro h
  obtain ⟨h1, h2, h3, -⟩ := (best_iff _ _).1 h
  unfold countF
  have hb : inB 1 14 n = true := by simp [inB]; omega
  rw [h1, hb]; rfl

/-! ### The best single programme is a programme -/
section
variable {α : Type} [Inhabited α]
theorem insS_end (lt : α → α → Bool) (out : List α) (y : α) (h : ∀ z ∈ out, lt y z = false) : insS lt out y = out ++ [y] := by
  have hp : posS lt out y out.length = out.length := by
    cases hl : out.length with
    | zero => rfl
    | succ k =>
      unfold posS
      have : out.getD k default ∈ out := by
        rw [List.getD_eq_getElem?_getD, List.getElem?_eq_getElem (by omega)]
        exact List.getElem_mem _
      rw [h _ this]
      rfl
  unfold insS insAt
  rw [hp, List.take_length, List.drop_length]
theorem sortS_id (lt : α → α → Bool) (xs : List α) (h : xs.Pairwise (fun x y => lt y x = false)) : sortS lt xs = xs := by
  have : ∀ (xs out : List α), (out ++ xs).Pairwise (fun x y => lt y x = false) → xs.foldl (insS lt) out = out ++ xs := by
    intro xs
    induction xs with
    | nil => intro out _; simp
    | cons x t ih =>
      intro out hp
      rw [List.foldl_cons, insS_end lt out x (fun z hz => (List.pairwise_append.1 hp).2.2 z hz x (by simp)), ih _ (by simpa using hp)]
      simp
  have h2 := this xs [] (by simpa using h)
  rw [List.nil_append] at h2
  exact h2
end
theorem order_again (d : CoD) (xs : List ItD) : orderL d (orderL d xs) = orderL d xs := by
  have e1 : (orderL d xs).map earlyD = sortS (ltF d) (xs.map earlyD) := by
    unfold orderL
    rw [late_early]
    conv => rhs; rw [← List.map_id (sortS (ltF d) (xs.map earlyD))]
    refine List.map_congr_left (fun x hx => ?_)
    obtain ⟨y, -, rfl⟩ := List.mem_map.1 (sortS_mem _ hx)
    rfl
  show lateL (sortS (ltF d) ((orderL d xs).map earlyD)) = _
  rw [e1, sortS_id]
  · rfl
  · refine (sortS_up (fullF d) (xs.map earlyD)).imp (fun {a b} hab => ?_)
    unfold ltF
    exact decide_eq_false (by omega)
theorem sn_occ {d : CoD} (h : codeB d = true) {js : List Nat} (hj : ∀ i ∈ js, i < d.1.length) (hs : js.Pairwise (fun x y => x < y)) {i : Nat} (hi : i ∈ js) : occN (js.map (snI d)) (d.1.getD i noEl).1 = 1 := by
  have e : ∀ j, j < d.1.length → occI (d.1.getD i noEl).1 (snI d j) = if j = i then 1 else 0 := by
    intro j hjl
    unfold occI snI oneI
    by_cases q : j = i
    · subst q; simp
    · have h9 := names_ne h hjl (hj i hi) q
      simp [q]
      simpa using h9
  unfold occN
  rw [List.map_map]
  have : ∀ js : List Nat, (∀ i ∈ js, i < d.1.length) → js.Pairwise (fun x y => x < y) → (js.map (occI (d.1.getD i noEl).1 ∘ snI d)).sum = if i ∈ js then 1 else 0 := by
    intro js
    induction js with
    | nil => intro _ _; simp
    | cons j t ih =>
      intro h1 h2
      rw [List.map_cons, List.sum_cons, ih (fun k hk => h1 k (by simp [hk])) (List.pairwise_cons.1 h2).2]
      show occI _ (snI d j) + _ = _
      rw [e j (h1 j (by simp))]
      by_cases q : j = i
      · subst q
        have : j ∉ t := fun hm => by have := (List.pairwise_cons.1 h2).1 j hm; omega
        simp [this]
      · have : ¬ i = j := fun e => q e.symm
        simp [q, this]
  rw [this js hj hs, if_pos hi]
theorem sn_fam {d : CoD} (h : codeB d = true) {i : Nat} (hi : i < d.1.length) : famI d (snI d i) = (famE d i : Nat) := by
  have hf := findF_self h hi
  have hd := codeB_ok h
  unfold famI familyF snI oneI
  simp only [List.getD_cons_zero, hf, Int.toNat_natCast]
  rw [if_neg (by omega)]
  unfold famE
  have := elB_ok (hd.els i _ (List.getElem?_eq_getElem hi))
  have e : d.1.getD i noEl = d.1[i] := by rw [List.getD_eq_getElem?_getD, List.getElem?_eq_getElem hi]; rfl
  rw [e]
  omega
theorem sn_rule {d : CoD} (h : codeB d = true) {js out : List Nat} {n : Nat} (hk : ChOk (famE d) (limE d) d.1.length n out) (hj : ∀ i ∈ js, i ∈ out) (hs : js.Pairwise (fun x y => x < y)) (hl : 0 < js.length) (r : Nat) (hr : r < 7) : ruleB d (js.map (snI d)) ((r : Int) + 1) = true := by
  have hd := codeB_ok h
  have hlt : ∀ i ∈ js, i < d.1.length := fun i hi => hk.lt i (hj i hi)
  rcases (show r = 0 ∨ r = 1 ∨ r = 2 ∨ r = 3 ∨ r = 4 ∨ r = 5 ∨ r = 6 by omega) with rfl | rfl | rfl | rfl | rfl | rfl | rfl
  · show decide (0 < ((js.map (snI d)).length : Int)) = true
    rw [List.length_map]
    simp only [decide_eq_true_eq]; omega
  · show (js.map (snI d)).all (knownI d.1) = true
    rw [List.all_eq_true]
    intro x hx
    obtain ⟨i, hi, rfl⟩ := List.mem_map.1 hx
    unfold knownI snI oneI
    simp only [List.all_cons, List.all_nil, Bool.and_true, decide_eq_true_eq]
    rw [findF_self h (hlt i hi)]
    exact Int.natCast_nonneg _
  · show (js.map (snI d)).all (fun x => x.2.1.all (inB 0 0)) = true
    rw [List.all_eq_true]
    intro x hx
    obtain ⟨i, hi, rfl⟩ := List.mem_map.1 hx
    rfl
  · show (js.map (snI d)).all (fun x => x.1.all (jumpN d x)) = true
    rw [List.all_eq_true]
    intro x hx
    obtain ⟨i, hi, rfl⟩ := List.mem_map.1 hx
    unfold snI oneI
    simp [jumpN]
  · have e1 : twoN (js.map (snI d)) = 0 := by
      unfold twoN
      rw [List.length_eq_zero_iff, List.filter_eq_nil_iff]
      intro x hx
      obtain ⟨i, hi, rfl⟩ := List.mem_map.1 hx
      simp [combI, snI, oneI]
    have e2 : threeN (js.map (snI d)) = 0 := by
      unfold threeN
      rw [List.length_eq_zero_iff, List.filter_eq_nil_iff]
      intro x hx
      obtain ⟨i, hi, rfl⟩ := List.mem_map.1 hx
      simp [snI, oneI]
    show (decide ((twoN (js.map (snI d)) : Int) ≤ 3) && decide ((threeN (js.map (snI d)) : Int) ≤ 1)) = true
    rw [e1, e2]; rfl
  · show (List.range 5).all (fun f : Nat => decide ((famCnt d (js.map (snI d)) f : Int) ≤ d.2.1.getD f 0)) = true
    rw [List.all_eq_true]
    intro f hf
    rw [List.mem_range] at hf
    have e : famCnt d (js.map (snI d)) f = cntF (famE d) f js := by
      unfold famCnt cntF
      rw [List.filter_map, List.length_map]
      congr 1
      refine List.filter_congr (fun i hi => ?_)
      show (famI d (snI d i) == (f : Int)) = (famE d i == f)
      rw [sn_fam h (hlt i hi), Bool.eq_iff_iff, beq_iff_eq, beq_iff_eq]
      omega
    have h1 := cntF_le (famE d) (l' := out) f (hs.imp (fun {a b} hab e => by omega)) (fun i hi _ => hj i hi)
    have h2 := hk.lim f
    have h3 := (limE_eq hd hf).1
    rw [e, decide_eq_true_eq]
    omega
  · show (js.map (snI d)).all (fun x => x.1.all (repW d (js.map (snI d)))) = true
    rw [List.all_eq_true]
    intro x hx
    obtain ⟨i, hi, rfl⟩ := List.mem_map.1 hx
    show ([(d.1.getD i noEl).1] : List (List UInt8)).all (repW d (js.map (snI d))) = true
    rw [List.all_cons, List.all_nil, Bool.and_true]
    unfold repW
    rw [sn_occ h hlt hs hi]
    have := hd.rep
    simp; omega
theorem sng_yes {d : CoD} {n : Int} (h : (sngF d n).2 = true) : (bestF d n).2 = true ∧ (sngF d n).1 = orderL d ((bestN d n.toNat).map (snI d)) := by
  unfold sngF at h ⊢
  split at h
  · next hb => rw [if_pos hb]; exact ⟨hb, rfl⟩
  · simp at h
theorem sng_best (d : CoD) (n : Int) : (sngF d n).2 = (bestF d n).2 := by
  unfold sngF
  cases (bestF d n).2 <;> rfl
theorem sb_best (d : CoD) (n : Int) : (sbF d n).2 = (bestF d n).2 := by
  unfold sbF
  rw [sng_best]
  cases (bestF d n).2 <;> rfl
/-- The best single programme is a programme of n items, and stays in its order. -/
theorem sng_prog {d : CoD} {n : Int} (h : (sngF d n).2 = true) : progB d (sngF d n).1 = true ∧ ((sngF d n).1.length : Int) = n ∧ orderF d (sngF d n).1 = ((sngF d n).1, true) ∧ (sbF d n) = ((basesF d (sngF d n).1).sum, true) := by
  obtain ⟨hb, e⟩ := sng_yes h
  obtain ⟨hc, n1, n2, -, hl⟩ := bestF_yes hb
  have hlen : (bestN d n.toNat).length = n.toNat := by rw [bestN_len]; omega
  have hin : ∀ i ∈ bestN d n.toNat, i ∈ chosF d n.toNat := by
    intro i hi
    obtain ⟨z, hz, rfl⟩ := List.mem_map.1 hi
    obtain ⟨j, rfl, hj⟩ := bestL_mem hz
    simpa using hj
  have hp : progB d (sngF d n).1 = true := by
    rw [e]
    have hI : itemsB ((bestN d n.toNat).map (snI d)) = true := by
      unfold itemsB
      rw [Bool.and_eq_true, List.all_eq_true, decide_eq_true_eq, List.length_map, hlen]
      refine ⟨fun x hx => ?_, by omega⟩
      obtain ⟨i, hi, rfl⟩ := List.mem_map.1 hx
      exact snI_B hc (bestN_lt i hi)
    unfold progB
    rw [hc, itemsB_order hI]
    have : (brokenF d (orderL d ((bestN d n.toNat).map (snI d)))).length = 0 := brokenF_nil.2 (fun r hr => by
      by_cases e : r = 7
      · subst e
        show lateB (orderL d _) = true
        exact late_late _
      · rw [order_rule d _ r (by omega)]
        exact sn_rule hc (chosF_ok d n.toNat) hin (bestN_sorted d n.toNat) (by omega) r (by omega))
    rw [this]
    rfl
  refine ⟨hp, ?_, ?_, ?_⟩
  · rw [e, orderL_len, List.length_map, hlen]; omega
  · unfold orderF
    rw [if_pos hp, e, order_again]
  · unfold sbF
    rw [if_pos h]
end Go.Proofs.YtegoapdbpfhkiaaGreat
