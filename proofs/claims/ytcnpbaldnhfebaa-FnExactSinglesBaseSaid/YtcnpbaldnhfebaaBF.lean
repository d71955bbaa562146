/- Single items of the best elements, in the order of their bases. -/
import Derived.Test.YtcnpbaldnhfebaaBE
import Derived.Test.YtcnpbaldnhfebaaGV
import Derived.Sort.Walk0
namespace Go.Proofs.Ytcnpbaldnhfebaa
open Go.RowKit Go.Sort
set_option linter.unusedVariables false

theorem ltS_iff (a b : List UInt8) : ltS a b = true ↔ a < b := by
  unfold ltS
  rw [bs_toList, bs_toList, bytesLess_eq, decide_eq_true_eq]
theorem codeB_up {d : CoD} (h : codeB d = true) {i : Nat} (hi : i < d.1.length) : elB (d.1.getD i noEl) = true ∧ upB d.1 i = true := by
  simp only [codeB, Bool.and_eq_true, List.all_eq_true, List.mem_range] at h
  have := h.2 i hi
  unfold elAt at this
  rwa [Bool.and_eq_true] at this
theorem names_lt {d : CoD} (h : codeB d = true) : ∀ (k i : Nat), i < k → k < d.1.length → (d.1.getD i noEl).1 < (d.1.getD k noEl).1 := by
  intro k
  induction k with
  | zero => intro i hi; omega
  | succ k ih =>
    intro i hi hk
    have h1 := (codeB_up h hk).2
    unfold upB at h1
    rw [Bool.or_eq_true, decide_eq_true_eq] at h1
    have h2 : (d.1.getD k noEl).1 < (d.1.getD (k + 1) noEl).1 := by
      rcases h1 with h1 | h1
      · omega
      · exact (ltS_iff _ _).1 h1
    by_cases e : i = k
    · subst e; exact h2
    · exact List.lt_trans (ih i (by omega) (by omega)) h2
theorem names_ne {d : CoD} (h : codeB d = true) {i k : Nat} (hi : i < d.1.length) (hk : k < d.1.length) (hne : i ≠ k) : (d.1.getD i noEl).1 ≠ (d.1.getD k noEl).1 := by
  rcases Nat.lt_or_gt_of_ne hne with hl | hl
  · intro e
    have := names_lt h k i hl hk
    rw [e] at this
    exact List.lt_irrefl _ this
  · intro e
    have := names_lt h i k hl hi
    rw [e] at this
    exact List.lt_irrefl _ this
theorem findF_self {d : CoD} (h : codeB d = true) {i : Nat} (hi : i < d.1.length) : findF d.1 (d.1.getD i noEl).1 = i := by
  refine findF_hit (x := d.1.getD i noEl) (by rw [List.getD_eq_getElem?_getD, List.getElem?_eq_getElem hi]; rfl) ?_ (by simp)
  rw [List.all_eq_true]
  intro x hx
  obtain ⟨j, hj, rfl⟩ := List.getElem_of_mem hx
  rw [List.length_take] at hj
  unfold neN
  rw [List.getElem_take]
  have := names_ne h (show j < d.1.length by omega) hi (by omega)
  rw [List.getD_eq_getElem?_getD, List.getElem?_eq_getElem (by omega), Option.getD_some] at this
  simpa using this
/-- The single item of element i. -/
def snI (d : CoD) (i : Nat) : ItD := oneI (d.1.getD i noEl).1
theorem snI_full {d : CoD} (h : codeB d = true) {i : Nat} (hi : i < d.1.length) : fullF d (snI d i) = basE d i := by
  have hf := findF_self h hi
  unfold fullF snI oneI worthsF worthsN worthAt worthN worthE basE
  simp only [List.length_singleton, List.range_one, List.map_cons, List.map_nil, List.sum_cons, List.sum_nil, List.getD_cons_zero, hf, Int.toNat_natCast]
  simp
theorem snI_ok {d : CoD} (h : codeB d = true) {i : Nat} (hi : i < d.1.length) : ItOk d (snI d i) := by
  refine ⟨by simp [snI, oneI], by simp [snI, oneI], by simp [snI, oneI], fun j nm hj => ?_⟩
  unfold snI oneI at hj
  cases j with
  | zero =>
    simp only [List.getElem?_cons_zero, Option.some.injEq] at hj
    rw [← hj, findF_self h hi]
    exact Int.natCast_nonneg _
  | succ j => simp at hj
theorem snI_B {d : CoD} (h : codeB d = true) {i : Nat} (hi : i < d.1.length) : itemB (snI d i) = true := by
  have h1 := (codeB_up h hi).1
  unfold elB at h1
  simp only [Bool.and_eq_true] at h1
  unfold itemB snI oneI
  rw [show ([(d.1.getD i noEl).1] : List (List UInt8)).all nameB = true by rw [List.all_cons, h1.1.1.1]; rfl]
  rfl
section
variable {α β : Type} [Inhabited α] [Inhabited β]
theorem posS_mapG (lt : β → β → Bool) (f : α → β) (out : List α) (y : α) : ∀ k, k ≤ out.length → posS lt (out.map f) (f y) k = posS (fun x z => lt (f x) (f z)) out y k
  | 0, _ => rfl
  | k + 1, hk => by
    unfold posS
    rw [posS_mapG lt f out y k (by omega)]
    have e : (out.map f).getD k default = f (out.getD k default) := by
      rw [List.getD_eq_getElem?_getD, List.getD_eq_getElem?_getD, List.getElem?_map, List.getElem?_eq_getElem (by omega)]
      rfl
    rw [e]
theorem insS_mapG (lt : β → β → Bool) (f : α → β) (out : List α) (y : α) : insS lt (out.map f) (f y) = (insS (fun x z => lt (f x) (f z)) out y).map f := by
  unfold insS insAt
  rw [List.length_map, posS_mapG lt f out y _ (Nat.le_refl _), List.map_append, List.map_cons, List.map_take, List.map_drop]
theorem sortS_mapG (lt : β → β → Bool) (f : α → β) (xs : List α) : sortS lt (xs.map f) = (sortS (fun x z => lt (f x) (f z)) xs).map f := by
  have : ∀ (xs out : List α), (xs.map f).foldl (insS lt) (out.map f) = (xs.foldl (insS (fun x z => lt (f x) (f z))) out).map f := by
    intro xs
    induction xs with
    | nil => intro out; rfl
    | cons x t ih =>
      intro out
      rw [List.map_cons, List.foldl_cons, List.foldl_cons, insS_mapG, ih]
  exact this xs []
theorem sortS_spec {T : α → α → Prop} {lt : α → α → Bool} (tr : ∀ x y z, T x y → T y z → T x z) (xs : List α) (hX : xs.Pairwise (LtOf T lt)) : (sortS lt xs).Pairwise T ∧ (sortS lt xs).Perm xs := by
  obtain ⟨M, e, s, p⟩ := sm_insertion (lt := lt) tr [] xs [] hX
  simp only [List.nil_append, List.append_nil, List.length_nil, Nat.zero_add] at e
  rw [insertionSort_list] at e
  have e2 : sortS lt xs = M := by have := congrArg Array.toList e; simpa using this
  rw [e2]
  exact ⟨s, p⟩
end
theorem sorted_one {base : Nat → Int} {M M' : List Nat} (hp : M.Perm M') (h : M.Pairwise (befS base)) (h' : M'.Pairwise (befS base)) : M = M' :=
  hp.eq_of_pairwise (fun a b _ _ h1 h2 => by unfold befS at h1 h2; omega) h h'
/-- Behind the sort by bases the items are as the stable order of items has them. -/
theorem order_items {d : CoD} (h : codeB d = true) {js M : List Nat} (hjs : ∀ i ∈ js, i < d.1.length) (hs : js.Pairwise (fun x y => x < y)) (hp : M.Perm js) (ht : M.Pairwise (befS (basE d))) :
    lateL (M.map (snI d)) = orderL d (js.map (snI d)) := by
  unfold orderL
  have e1 : (js.map (snI d)).map earlyD = js.map (snI d) := by rw [List.map_map]; rfl
  rw [e1, sortS_mapG]
  have sp := sortS_spec (T := befS (basE d)) (lt := fun x z => decide (basE d x < basE d z)) (fun x y z => befS_trans) js (hs.imp (fun {x y} hxy => by
    unfold LtOf befS
    refine ⟨fun q => ?_, fun q => ?_⟩
    · have := of_decide_eq_true q
      omega
    · have := of_decide_eq_false q
      omega))
  have e2 : sortS (fun x z => ltF d (snI d x) (snI d z)) js = sortS (fun x z => decide (basE d x < basE d z)) js := by
    have gen : ∀ (xs out : List Nat), (∀ i ∈ xs, i < d.1.length) → (∀ i ∈ out, i < d.1.length) → xs.foldl (insS (fun x z => ltF d (snI d x) (snI d z))) out = xs.foldl (insS (fun x z => decide (basE d x < basE d z))) out := by
      intro xs
      induction xs with
      | nil => intro out _ _; rfl
      | cons x t ih =>
        intro out hx ho
        have hx0 := hx x (by simp)
        have e : insS (fun x z => ltF d (snI d x) (snI d z)) out x = insS (fun x z => decide (basE d x < basE d z)) out x := by
          unfold insS
          congr 1
          have : ∀ k, k ≤ out.length → posS (fun x z => ltF d (snI d x) (snI d z)) out x k = posS (fun x z => decide (basE d x < basE d z)) out x k := by
            intro k
            induction k with
            | zero => intro _; rfl
            | succ k ihk =>
              intro hk
              unfold posS
              rw [ihk (by omega)]
              have hm : out.getD k default < d.1.length := by
                rw [List.getD_eq_getElem?_getD, List.getElem?_eq_getElem (by omega)]
                exact ho _ (List.getElem_mem _)
              unfold ltF
              rw [snI_full h hx0, snI_full h hm]
          exact this _ (Nat.le_refl _)
        rw [List.foldl_cons, List.foldl_cons, e]
        refine ih _ (fun i hi => hx i (by simp [hi])) (fun i hi => ?_)
        unfold insS insAt at hi
        rcases List.mem_append.1 hi with q | q
        · exact ho i (List.mem_of_mem_take q)
        · rcases List.mem_cons.1 q with q | q
          · subst q; exact hx0
          · exact ho i (List.mem_of_mem_drop q)
    exact gen js [] hjs (by simp)
  rw [e2, ← sorted_one (hp.trans sp.2.symm) ht sp.1]
/-- The best elements as indices in increasing order. -/
def bestN (d : CoD) (n : Nat) : List Nat := (bestL d n).map Int.toNat
theorem bestL_mem {d : CoD} {n : Nat} {z : Int} (h : z ∈ bestL d n) : ∃ i : Nat, z = i ∧ i ∈ chosF d n := by
  unfold bestL at h
  rw [List.mem_reverse, (sortD_perm _).mem_iff] at h
  obtain ⟨i, hi, rfl⟩ := List.mem_map.1 h
  exact ⟨i, rfl, hi⟩
theorem bestN_int (d : CoD) (n : Nat) : intL (bestN d n) = bestL d n := by
  unfold intL bestN
  rw [List.map_map]
  conv => rhs; rw [← List.map_id (bestL d n)]
  refine List.map_congr_left fun z hz => ?_
  obtain ⟨i, rfl, _⟩ := bestL_mem hz
  simp
theorem bestN_lt {d : CoD} {n : Nat} : ∀ i ∈ bestN d n, i < d.1.length := by
  intro i hi
  obtain ⟨z, hz, rfl⟩ := List.mem_map.1 hi
  obtain ⟨j, rfl, hj⟩ := bestL_mem hz
  rw [Int.toNat_natCast]
  exact (chosF_ok d n).lt j hj
theorem bestN_sorted (d : CoD) (n : Nat) : (bestN d n).Pairwise (fun x y => x < y) := by
  have h1 : (bestL d n).Pairwise (fun x y => x ≤ y) := by
    unfold bestL
    rw [List.pairwise_reverse]
    exact (sortD_sorted _).imp (by simp)
  have h2 : (bestL d n).Nodup := by
    unfold bestL
    rw [(List.reverse_perm _).nodup_iff, (sortD_perm _).nodup_iff]
    unfold intL
    exact List.pairwise_map.2 ((chosF_ok d n).nd.imp (fun {a b} hab e => hab (by omega)))
  have h3 := h1.and h2
  unfold bestN
  rw [List.pairwise_map]
  refine List.Pairwise.imp_of_mem (fun {x y} hx hy hxy => ?_) h3
  obtain ⟨i, rfl, _⟩ := bestL_mem hx
  obtain ⟨j, rfl, _⟩ := bestL_mem hy
  have := hxy.1
  have h5 := hxy.2
  rw [Int.toNat_natCast, Int.toNat_natCast]
  omega
theorem bestN_len (d : CoD) (n : Nat) : (bestN d n).length = (bestL d n).length := by unfold bestN; rw [List.length_map]
/-- The best single programme. -/
def sngF (d : CoD) (n : Int) : List ItD × Bool := if (bestF d n).2 = true then (orderL d ((bestN d n.toNat).map (snI d)), true) else ([], false)
theorem bestF_yes {d : CoD} {n : Int} (h : (bestF d n).2 = true) : codeB d = true ∧ 1 ≤ n ∧ n ≤ 14 ∧ (bestF d n).1 = bestL d n.toNat ∧ ((bestL d n.toNat).length : Int) = n := by
  unfold bestF at h ⊢
  split at h
  · rename_i hh
    have h2 := hh.1
    unfold askB at h2
    rw [Bool.and_eq_true] at h2
    have h3 := inB_ok h2.2
    have h4 := (chosF_ok d n.toNat).len
    rw [if_pos hh]
    exact ⟨h2.1, h3.1, h3.2, rfl, by rw [bestL_len]; omega⟩
  · cases h
end Go.Proofs.Ytcnpbaldnhfebaa
