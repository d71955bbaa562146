/- The merge in place of the library's stable sort, plainly: where both parts are cut, and what is joined. Of no program. -/
import Derived.Test.YtcnpbaldnhfebaaGA
import Derived.Sort.Defs
namespace Go.Proofs.Ytcnpbaldnhfebaa
set_option linter.unusedVariables false

section
variable {α : Type} [Inhabited α] {T : α → α → Prop} {lt : α → α → Bool}
theorem sm_getl {A B : List α} {i : Nat} (h : i < A.length) : (A ++ B).getD i default = A.getD i default := by
  rw [List.getD_eq_getElem?_getD, List.getD_eq_getElem?_getD, List.getElem?_append_left h]
theorem sm_getr {A B : List α} {i : Nat} : (A ++ B).getD (A.length + i) default = B.getD i default := by
  rw [List.getD_eq_getElem?_getD, List.getD_eq_getElem?_getD, List.getElem?_append_right (Nat.le_add_right _ _), Nat.add_sub_cancel_left]
theorem sm_before (tr : ∀ x y z, T x y → T y z → T x z) {A B : List α} (hA : A.Pairwise T) (hB : B.Pairwise T) (h : ∀ i, A.length = i + 1 → 0 < B.length → T (A.getD i default) (B.getD 0 default)) : ∀ x ∈ A, ∀ y ∈ B, T x y := by
  intro x hx y hy
  obtain ⟨i, hi, rfl⟩ := List.getElem_of_mem hx
  obtain ⟨j, hj, rfl⟩ := List.getElem_of_mem hy
  have h0 := h (A.length - 1) (by omega) (by omega)
  rw [List.getD_eq_getElem?_getD, List.getElem?_eq_getElem (by omega), Option.getD_some, List.getD_eq_getElem?_getD, List.getElem?_eq_getElem (by omega), Option.getD_some] at h0
  have h1 : i = A.length - 1 ∨ T A[i] (A[A.length - 1]'(by omega)) := by
    by_cases e : i = A.length - 1
    · exact .inl e
    · exact .inr (List.pairwise_iff_getElem.1 hA i (A.length - 1) hi (by omega) (by omega))
  have h2 : j = 0 ∨ T (B[0]'(by omega)) B[j] := by
    by_cases e : j = 0
    · exact .inl e
    · exact .inr (List.pairwise_iff_getElem.1 hB 0 j (by omega) hj (by omega))
  have h3 : T A[i] (B[0]'(by omega)) := by
    rcases h1 with e | e
    · subst e; exact h0
    · exact tr _ _ _ e h0
  rcases h2 with e | e
  · subst e; exact h3
  · exact tr _ _ _ h3 e
omit [Inhabited α] in
theorem sm_join {L1 L2 R1 R2 M1 M2 : List α} (p1 : M1.Perm (L1 ++ R1)) (s1 : M1.Pairwise T) (p2 : M2.Perm (L2 ++ R2)) (s2 : M2.Pairwise T) (h : ∀ x ∈ L1 ++ R1, ∀ y ∈ L2 ++ R2, T x y) :
    (M1 ++ M2).Pairwise T ∧ (M1 ++ M2).Perm ((L1 ++ L2) ++ (R1 ++ R2)) := by
  refine ⟨List.pairwise_append.2 ⟨s1, s2, fun x hx y hy => h x (p1.mem_iff.1 hx) y (p2.mem_iff.1 hy)⟩, ?_⟩
  refine (p1.append p2).trans ?_
  have e1 : (L1 ++ R1) ++ (L2 ++ R2) = L1 ++ ((R1 ++ L2) ++ R2) := by simp
  have e2 : (L1 ++ L2) ++ (R1 ++ R2) = L1 ++ ((L2 ++ R1) ++ R2) := by simp
  rw [e1, e2]
  exact List.Perm.append_left _ (List.Perm.append_right _ List.perm_append_comm)
/-- How comparisons of the right part with the left one speak of the order. -/
def CmpOf (T : α → α → Prop) (lt : α → α → Bool) (L R : List α) : Prop := ∀ x ∈ L, ∀ y ∈ R, (lt y x = true → T y x) ∧ (lt y x = false → T x y)
theorem sm_mem {A : List α} {i : Nat} (h : i < A.length) : A.getD i default ∈ A := by
  rw [List.getD_eq_getElem?_getD, List.getElem?_eq_getElem h, Option.getD_some]
  exact List.getElem_mem h
/-- Behind the search: both parts cut, what goes left goes ahead of what goes right. -/
theorem sm_split (tr : ∀ x y z, T x y → T y z → T x z) {P L R S : List α} (hL : L.Pairwise T) (hR : R.Pairwise T) (hc : CmpOf T lt L R) {s n : Nat} (hn : n = (P.length + (P.length + L.length + R.length)) / 2 + (P.length + L.length))
    (h1 : P.length ≤ s) (h2 : s ≤ P.length + L.length) (h3 : P.length + L.length + s ≤ n) (h4 : n ≤ P.length + L.length + R.length + s)
    (hlo : s = P.length ∨ n = P.length + L.length + R.length + s ∨ lt ((P ++ (L ++ (R ++ S))).getD (n - s) default) ((P ++ (L ++ (R ++ S))).getD (s - 1) default) = false)
    (hhi : s = P.length + L.length ∨ n = P.length + L.length + s ∨ lt ((P ++ (L ++ (R ++ S))).getD (n - 1 - s) default) ((P ++ (L ++ (R ++ S))).getD s default) = true) :
    ∃ L1 L2 R1 R2, L = L1 ++ L2 ∧ R = R1 ++ R2 ∧ L1.length = s - P.length ∧ R1.length = n - s - (P.length + L.length) ∧ ∀ x ∈ L1 ++ R1, ∀ y ∈ L2 ++ R2, T x y := by
  have zL : ∀ i, i < L.length → (P ++ (L ++ (R ++ S))).getD (P.length + i) default = L.getD i default := fun i hi => by rw [sm_getr, sm_getl hi]
  have zR : ∀ i, i < R.length → (P ++ (L ++ (R ++ S))).getD (P.length + L.length + i) default = R.getD i default := fun i hi => by rw [Nat.add_assoc, sm_getr, sm_getr, sm_getl hi]
  obtain ⟨i, rfl⟩ : ∃ i, s = P.length + i := ⟨s - P.length, by omega⟩
  obtain ⟨j, hj⟩ : ∃ j, n = P.length + i + (P.length + L.length + j) := ⟨n - (P.length + i) - (P.length + L.length), by omega⟩
  have hi : i ≤ L.length := by omega
  have hjr : j ≤ R.length := by omega
  have eL : L = L.take i ++ L.drop i := (List.take_append_drop i L).symm
  have eR : R = R.take j ++ R.drop j := (List.take_append_drop j R).symm
  have pL := hL; rw [eL, List.pairwise_append] at pL
  have pR := hR; rw [eR, List.pairwise_append] at pR
  refine ⟨L.take i, L.drop i, R.take j, R.drop j, eL, eR, by rw [List.length_take]; omega, by rw [List.length_take]; omega, ?_⟩
  have tk : ∀ (A : List α) (k q : Nat), q < k → (A.take k).getD q default = A.getD q default := fun A k q h => by rw [List.getD_eq_getElem?_getD, List.getD_eq_getElem?_getD, List.getElem?_take, if_pos h]
  have dk : ∀ (A : List α) (k : Nat), (A.drop k).getD 0 default = A.getD k default := fun A k => by rw [List.getD_eq_getElem?_getD, List.getD_eq_getElem?_getD, List.getElem?_drop]; rfl
  have a1 : ∀ x ∈ L.take i, ∀ y ∈ R.drop j, T x y := sm_before tr pL.1 pR.2.1 fun q hq hl => by
    rw [List.length_take] at hq
    rw [List.length_drop] at hl
    rw [tk _ _ _ (by omega), dk]
    rcases hlo with e | e | e
    · omega
    · omega
    · rw [show n - (P.length + i) = P.length + L.length + j by omega, zR j (by omega), show P.length + i - 1 = P.length + q by omega, zL q (by omega)] at e
      exact (hc _ (sm_mem (by omega)) _ (sm_mem (by omega))).2 e
  have a2 : ∀ x ∈ R.take j, ∀ y ∈ L.drop i, T x y := sm_before tr pR.1 pL.2.1 fun q hq hl => by
    rw [List.length_take] at hq
    rw [List.length_drop] at hl
    rw [tk _ _ _ (by omega), dk]
    rcases hhi with e | e | e
    · omega
    · omega
    · rw [show n - 1 - (P.length + i) = P.length + L.length + q by omega, zR q (by omega), zL i (by omega)] at e
      exact (hc _ (sm_mem (by omega)) _ (sm_mem (by omega))).1 e
  intro x hx y hy
  rcases List.mem_append.1 hx with hx | hx <;> rcases List.mem_append.1 hy with hy | hy
  · exact pL.2.2 x hx y hy
  · exact a1 x hx y hy
  · exact a2 x hx y hy
  · exact pR.2.2 x hx y hy
omit [Inhabited α] in
theorem CmpOf.sub {L R L' R' : List α} (h : CmpOf T lt L R) (h1 : ∀ x ∈ L', x ∈ L) (h2 : ∀ x ∈ R', x ∈ R) : CmpOf T lt L' R' := fun x hx y hy => h x (h1 x hx) y (h2 y hy)
/-- One element put into the right part. -/
theorem sm_one (tr : ∀ x y z, T x y → T y z → T x z) {x : α} {R : List α} (hR : R.Pairwise T) (hc : CmpOf T lt [x] R) {i : Nat} (hi : i ≤ R.length) (hlo : i = 0 ∨ lt (R.getD (i - 1) default) x = true) (hhi : i = R.length ∨ lt (R.getD i default) x = false) :
    (R.take i ++ x :: R.drop i).Pairwise T ∧ (R.take i ++ x :: R.drop i).Perm (x :: R) := by
  have pR := hR; rw [← List.take_append_drop i R, List.pairwise_append] at pR
  have tk : ∀ (A : List α) (k q : Nat), q < k → (A.take k).getD q default = A.getD q default := fun A k q h => by rw [List.getD_eq_getElem?_getD, List.getD_eq_getElem?_getD, List.getElem?_take, if_pos h]
  have dk : ∀ (A : List α) (k : Nat), (A.drop k).getD 0 default = A.getD k default := fun A k => by rw [List.getD_eq_getElem?_getD, List.getD_eq_getElem?_getD, List.getElem?_drop]; rfl
  have s1 : ([x] : List α).Pairwise T := List.pairwise_singleton _ _
  have a1 : ∀ y ∈ R.take i, ∀ z ∈ [x], T y z := sm_before tr pR.1 s1 fun q hq hl => by
    rw [List.length_take] at hq
    rw [tk _ _ _ (by omega)]
    rcases hlo with e | e
    · omega
    · rw [show i - 1 = q by omega] at e
      exact (hc x (by simp) _ (sm_mem (by omega))).1 e
  have a2 : ∀ y ∈ [x], ∀ z ∈ R.drop i, T y z := sm_before tr s1 pR.2.1 fun q hq hl => by
    rw [List.length_drop] at hl
    simp at hq
    subst hq
    rw [dk]
    rcases hhi with e | e
    · omega
    · exact (hc x (by simp) _ (sm_mem (by omega))).2 e
  constructor
  · rw [List.pairwise_append, List.pairwise_cons]
    refine ⟨pR.1, ⟨fun z hz => a2 x (by simp) z hz, pR.2.1⟩, fun y hy z hz => ?_⟩
    rcases List.mem_cons.1 hz with e | e
    · subst e; exact a1 y hy _ (by simp)
    · exact pR.2.2 y hy z e
  · have := List.perm_middle (a := x) (l₁ := R.take i) (l₂ := R.drop i)
    rwa [List.take_append_drop] at this
theorem sm_last (tr : ∀ x y z, T x y → T y z → T x z) {y : α} {L : List α} (hL : L.Pairwise T) (hc : CmpOf T lt L [y]) {i : Nat} (hi : i ≤ L.length) (hlo : i = 0 ∨ lt y (L.getD (i - 1) default) = false) (hhi : i = L.length ∨ lt y (L.getD i default) = true) :
    (L.take i ++ y :: L.drop i).Pairwise T ∧ (L.take i ++ y :: L.drop i).Perm (L ++ [y]) := by
  have pR := hL; rw [← List.take_append_drop i L, List.pairwise_append] at pR
  have tk : ∀ (A : List α) (k q : Nat), q < k → (A.take k).getD q default = A.getD q default := fun A k q h => by rw [List.getD_eq_getElem?_getD, List.getD_eq_getElem?_getD, List.getElem?_take, if_pos h]
  have dk : ∀ (A : List α) (k : Nat), (A.drop k).getD 0 default = A.getD k default := fun A k => by rw [List.getD_eq_getElem?_getD, List.getD_eq_getElem?_getD, List.getElem?_drop]; rfl
  have s1 : ([y] : List α).Pairwise T := List.pairwise_singleton _ _
  have a1 : ∀ u ∈ L.take i, ∀ z ∈ [y], T u z := sm_before tr pR.1 s1 fun q hq hl => by
    rw [List.length_take] at hq
    rw [tk _ _ _ (by omega)]
    rcases hlo with e | e
    · omega
    · rw [show i - 1 = q by omega] at e
      exact (hc _ (sm_mem (by omega)) y (by simp)).2 e
  have a2 : ∀ u ∈ [y], ∀ z ∈ L.drop i, T u z := sm_before tr s1 pR.2.1 fun q hq hl => by
    rw [List.length_drop] at hl
    simp at hq
    subst hq
    rw [dk]
    rcases hhi with e | e
    · omega
    · exact (hc _ (sm_mem (by omega)) y (by simp)).1 e
  constructor
  · rw [List.pairwise_append, List.pairwise_cons]
    refine ⟨pR.1, ⟨fun z hz => a2 y (by simp) z hz, pR.2.1⟩, fun u hu z hz => ?_⟩
    rcases List.mem_cons.1 hz with e | e
    · subst e; exact a1 u hu _ (by simp)
    · exact pR.2.2 u hu z e
  · have h1 := List.perm_middle (a := y) (l₁ := L.take i) (l₂ := L.drop i)
    rw [List.take_append_drop] at h1
    exact h1.trans (List.perm_append_singleton y L).symm
theorem la_get (l : List α) (i : Nat) : l.toArray[i]! = l.getD i default := by
  rw [List.getElem!_toArray, getElem!_def, List.getD_eq_getElem?_getD]
  cases l[i]? <;> rfl
theorem sw_mid {X Y Z : List α} {a b : α} {i j : Nat} (hi : X.length = i) (hj : X.length + 1 + Y.length = j) :
    Go.Sort.swp (X ++ a :: (Y ++ b :: Z)).toArray i j = (X ++ b :: (Y ++ a :: Z)).toArray := by
  subst hi; subst hj
  have e1 : (X ++ a :: (Y ++ b :: Z)).toArray[X.length]! = a := by
    rw [la_get, List.getD_eq_getElem?_getD, List.getElem?_append_right (Nat.le_refl _), Nat.sub_self]; rfl
  have e2 : (X ++ a :: (Y ++ b :: Z)).toArray[X.length + 1 + Y.length]! = b := by
    rw [la_get, List.getD_eq_getElem?_getD, List.getElem?_append_right (by omega), show X.length + 1 + Y.length - X.length = Y.length + 1 by omega, List.getElem?_cons_succ, List.getElem?_append_right (Nat.le_refl _), Nat.sub_self]; rfl
  unfold Go.Sort.swp
  rw [e1, e2]
  apply Array.ext'
  rw [Array.toList_setIfInBounds, Array.toList_setIfInBounds]
  show ((X ++ a :: (Y ++ b :: Z)).set X.length b).set (X.length + 1 + Y.length) a = X ++ b :: (Y ++ a :: Z)
  rw [List.set_append_right _ _ (Nat.le_refl _), Nat.sub_self, List.set_cons_zero, List.set_append_right _ _ (by omega), show X.length + 1 + Y.length - X.length = Y.length + 1 by omega, List.set_cons_succ, List.set_append_right _ _ (Nat.le_refl _), Nat.sub_self, List.set_cons_zero]
theorem sw_mid' {X Y Z : List α} {a b : α} {i j : Nat} (hi : X.length = i) (hj : X.length + 1 + Y.length = j) :
    Go.Sort.swp (X ++ a :: (Y ++ b :: Z)).toArray j i = (X ++ b :: (Y ++ a :: Z)).toArray := by
  rw [← sw_mid (Z := Z) (a := a) (b := b) hi hj]
  have hne : i ≠ j := by omega
  unfold Go.Sort.swp
  apply Array.ext'
  simp only [Array.toList_setIfInBounds]
  exact List.set_comm _ _ (Ne.symm hne)
/-- Two ranges of one length, of which the first i elements are exchanged. -/
def swR (P A Q B S : List α) (i : Nat) : List α := P ++ ((B.take i ++ A.drop i) ++ (Q ++ ((A.take i ++ B.drop i) ++ S)))
omit [Inhabited α] in
theorem swR_zero (P A Q B S : List α) : swR P A Q B S 0 = P ++ (A ++ (Q ++ (B ++ S))) := by simp [swR]
omit [Inhabited α] in
theorem swR_end {P A Q B S : List α} {n : Nat} (hA : A.length = n) (hB : B.length = n) : swR P A Q B S n = P ++ (B ++ (Q ++ (A ++ S))) := by
  unfold swR
  rw [List.take_of_length_le (by omega), List.take_of_length_le (by omega), List.drop_of_length_le (by omega), List.drop_of_length_le (by omega), List.append_nil, List.append_nil]
omit [Inhabited α] in
theorem swR_len {P A Q B S : List α} {n : Nat} (hA : A.length = n) (hB : B.length = n) (i : Nat) : (swR P A Q B S i).length = P.length + n + Q.length + n + S.length := by
  unfold swR
  simp only [List.length_append, List.length_take, List.length_drop]
  omega
theorem swR_step {P A Q B S : List α} {n i : Nat} (hA : A.length = n) (hB : B.length = n) (hi : i < n) :
    Go.Sort.swp (swR P A Q B S i).toArray (P.length + i) (P.length + n + Q.length + i) = (swR P A Q B S (i + 1)).toArray := by
  have eA : A.drop i = A[i]'(by omega) :: A.drop (i + 1) := List.drop_eq_getElem_cons (by omega)
  have eB : B.drop i = B[i]'(by omega) :: B.drop (i + 1) := List.drop_eq_getElem_cons (by omega)
  have e1 : swR P A Q B S i = (P ++ B.take i) ++ A[i]'(by omega) :: ((A.drop (i + 1) ++ Q ++ A.take i) ++ B[i]'(by omega) :: (B.drop (i + 1) ++ S)) := by
    unfold swR; rw [eA, eB]; simp only [List.append_assoc, List.cons_append]
  have e2 : swR P A Q B S (i + 1) = (P ++ B.take i) ++ B[i]'(by omega) :: ((A.drop (i + 1) ++ Q ++ A.take i) ++ A[i]'(by omega) :: (B.drop (i + 1) ++ S)) := by
    unfold swR; rw [List.take_succ_eq_append_getElem (by omega), List.take_succ_eq_append_getElem (by omega)]; simp only [List.append_assoc, List.cons_append, List.nil_append]
  rw [e1, e2]
  refine sw_mid ?_ ?_ <;> simp only [List.length_append, List.length_take, List.length_drop] <;> omega
/-- One element on its way through a list. -/
def bub (P : List α) (x : α) (R S : List α) (t : Nat) : List α := P ++ (R.take t ++ x :: (R.drop t ++ S))
omit [Inhabited α] in
theorem bub_len (P : List α) (x : α) (R S : List α) (t : Nat) : (bub P x R S t).length = P.length + (R.length + 1) + S.length := by
  unfold bub
  simp only [List.length_append, List.length_take, List.length_drop, List.length_cons]
  omega
theorem bub_up {P R S : List α} {x : α} {t i j : Nat} (ht : t < R.length) (hi : P.length + t = i) (hj : i + 1 = j) : Go.Sort.swp (bub P x R S t).toArray i j = (bub P x R S (t + 1)).toArray := by
  have eR : R.drop t = R[t] :: R.drop (t + 1) := List.drop_eq_getElem_cons ht
  have e1 : bub P x R S t = (P ++ R.take t) ++ x :: ([] ++ R[t] :: (R.drop (t + 1) ++ S)) := by
    unfold bub; rw [eR]; simp only [List.append_assoc, List.cons_append, List.nil_append]
  have e2 : bub P x R S (t + 1) = (P ++ R.take t) ++ R[t] :: ([] ++ x :: (R.drop (t + 1) ++ S)) := by
    unfold bub; rw [List.take_succ_eq_append_getElem ht]; simp only [List.append_assoc, List.cons_append, List.nil_append]
  rw [e1, e2]
  refine sw_mid ?_ ?_ <;> simp only [List.length_append, List.length_take, List.length_nil] <;> omega
theorem bub_down {P R S : List α} {x : α} {t i j : Nat} (ht : t < R.length) (hi : P.length + t = i) (hj : i + 1 = j) : Go.Sort.swp (bub P x R S (t + 1)).toArray j i = (bub P x R S t).toArray := by
  have eR : R.drop t = R[t] :: R.drop (t + 1) := List.drop_eq_getElem_cons ht
  have e1 : bub P x R S t = (P ++ R.take t) ++ x :: ([] ++ R[t] :: (R.drop (t + 1) ++ S)) := by
    unfold bub; rw [eR]; simp only [List.append_assoc, List.cons_append, List.nil_append]
  have e2 : bub P x R S (t + 1) = (P ++ R.take t) ++ R[t] :: ([] ++ x :: (R.drop (t + 1) ++ S)) := by
    unfold bub; rw [List.take_succ_eq_append_getElem ht]; simp only [List.append_assoc, List.cons_append, List.nil_append]
  rw [e1, e2]
  refine sw_mid' ?_ ?_ <;> simp only [List.length_append, List.length_take, List.length_nil] <;> omega
omit [Inhabited α] in
theorem bub_zero (P : List α) (x : α) (R S : List α) : bub P x R S 0 = P ++ (x :: R ++ S) := by simp [bub]
omit [Inhabited α] in
theorem bub_end (P : List α) (x : α) (R S : List α) : bub P x R S R.length = P ++ ((R ++ [x]) ++ S) := by simp [bub]
omit [Inhabited α] in
theorem bub_mid (P : List α) (x : α) (R S : List α) (t : Nat) : bub P x R S t = P ++ ((R.take t ++ x :: R.drop t) ++ S) := by simp [bub]
/-- What a comparison of a later element with an earlier one says. -/
def LtOf (T : α → α → Prop) (lt : α → α → Bool) (x y : α) : Prop := (lt y x = true → T y x) ∧ (lt y x = false → T x y)
theorem sm_inner (tr : ∀ x y z, T x y → T y z → T x z) : ∀ (k : Nat) (P M1 M2 Z : List α) (y : α), M1.length = k → (M1 ++ M2).Pairwise T → (∀ m ∈ M2, T y m) → (∀ x ∈ M1, LtOf T lt x y) →
    ∃ M, Go.Sort.insInner lt P.length (P.length + k) (P ++ ((M1 ++ y :: M2) ++ Z)).toArray = (P ++ (M ++ Z)).toArray ∧ M.Pairwise T ∧ M.Perm (M1 ++ y :: M2) := by
  intro k
  induction k with
  | zero =>
    intro P M1 M2 Z y h1 hp hy hc
    have e : M1 = [] := List.eq_nil_of_length_eq_zero h1
    subst e
    refine ⟨y :: M2, ?_, List.pairwise_cons.2 ⟨hy, by simpa using hp⟩, List.Perm.refl _⟩
    rw [Nat.add_zero, List.nil_append]
    cases hP : P.length with
    | zero => rfl
    | succ n => unfold Go.Sort.insInner; simp
  | succ k ih =>
    intro P M1 M2 Z y h1 hp hy hc
    obtain ⟨o, z, rfl⟩ : ∃ o z, M1 = o ++ [z] := by
      have hne : M1 ≠ [] := by intro e; subst e; simp at h1
      exact ⟨M1.dropLast, M1.getLast hne, (List.dropLast_concat_getLast hne).symm⟩
    have ho : o.length = k := by simpa using h1
    have eq1 : P ++ (((o ++ [z]) ++ y :: M2) ++ Z) = (P ++ o) ++ z :: ([] ++ y :: (M2 ++ Z)) := by simp
    have g1 : (P ++ (((o ++ [z]) ++ y :: M2) ++ Z)).toArray[P.length + k + 1]! = y := by
      rw [eq1, la_get, List.getD_eq_getElem?_getD, List.getElem?_append_right (by rw [List.length_append]; omega), List.length_append, show P.length + k + 1 - (P.length + o.length) = 1 by omega]; rfl
    have g0 : (P ++ (((o ++ [z]) ++ y :: M2) ++ Z)).toArray[P.length + k]! = z := by
      rw [eq1, la_get, List.getD_eq_getElem?_getD, List.getElem?_append_right (by rw [List.length_append]; omega), List.length_append, show P.length + k - (P.length + o.length) = 0 by omega]; rfl
    have hz := hc z (by simp)
    rw [show P.length + (k + 1) = P.length + k + 1 by omega]
    unfold Go.Sort.insInner
    rw [g1, g0, decide_eq_true (show P.length + k + 1 > P.length by omega), Bool.true_and]
    rw [List.append_assoc, List.pairwise_append] at hp
    cases hl : lt y z with
    | true =>
      rw [if_pos rfl, eq1, sw_mid' (X := P ++ o) (Y := []) (by rw [List.length_append]; omega) (by rw [List.length_append, List.length_nil]; omega)]
      have e2 : (P ++ o) ++ y :: ([] ++ z :: (M2 ++ Z)) = P ++ ((o ++ y :: (z :: M2)) ++ Z) := by simp
      rw [e2]
      obtain ⟨M, e, s, p⟩ := ih P o (z :: M2) Z y ho (by rw [List.pairwise_append]; exact hp) (fun m hm => by
        rcases List.mem_cons.1 hm with h | h
        · subst h; exact hz.1 hl
        · exact hy m h) (fun x hx => hc x (by simp [hx]))
      refine ⟨M, e, s, p.trans ?_⟩
      rw [List.append_assoc, List.singleton_append]
      exact List.Perm.append_left _ (List.Perm.swap _ _ _)
    | false =>
      rw [if_neg (by simp)]
      refine ⟨(o ++ [z]) ++ y :: M2, rfl, ?_, List.Perm.refl _⟩
      have tz := hz.2 hl
      rw [List.append_assoc, List.pairwise_append]
      have hz2 := List.pairwise_cons.1 hp.2.1
      refine ⟨hp.1, List.pairwise_cons.2 ⟨fun m hm => ?_, List.pairwise_cons.2 ⟨hy, hz2.2⟩⟩, fun x hx m hm => ?_⟩
      · rcases List.mem_cons.1 hm with h | h
        · subst h; exact tz
        · exact hz2.1 m h
      · have xz := hp.2.2 x hx z (by simp)
        rcases List.mem_cons.1 hm with h | h
        · subst h; exact xz
        · rcases List.mem_cons.1 h with h | h
          · subst h; exact tr _ _ _ xz tz
          · exact hp.2.2 x hx m (by simp [h])
theorem sm_outer (tr : ∀ x y z, T x y → T y z → T x z) : ∀ (r : Nat) (P M R Z : List α), R.length = r → M.Pairwise T → (∀ x ∈ M, ∀ y ∈ R, LtOf T lt x y) → R.Pairwise (LtOf T lt) →
    ∃ M', Go.Sort.insOuter lt P.length (P.length + (M.length + r)) (P.length + M.length) (P ++ (M ++ (R ++ Z))).toArray = (P ++ (M' ++ Z)).toArray ∧ M'.Pairwise T ∧ M'.Perm (M ++ R) := by
  intro r
  induction r with
  | zero =>
    intro P M R Z h1 hM hc hR
    have e : R = [] := List.eq_nil_of_length_eq_zero h1
    subst e
    refine ⟨M, ?_, hM, by simp⟩
    unfold Go.Sort.insOuter
    rw [if_neg (by omega)]
    rfl
  | succ r ih =>
    intro P M R Z h1 hM hc hR
    cases R with
    | nil => simp at h1
    | cons y R =>
      rw [List.pairwise_cons] at hR
      obtain ⟨M1, e1, s1, p1⟩ := sm_inner (lt := lt) tr M.length P M [] (R ++ Z) y rfl (by simpa using hM) (by simp) (fun x hx => hc x hx y (by simp))
      have l1 : M1.length = M.length + 1 := by rw [p1.length_eq]; simp
      obtain ⟨M2, e2, s2, p2⟩ := ih P M1 R Z (by simpa using h1) s1 (fun x hx v hv => by
        rcases List.mem_append.1 (p1.mem_iff.1 hx) with h | h
        · exact hc x h v (by simp [hv])
        · have : x = y := by simpa using h
          subst this; exact hR.1 v hv) hR.2
      refine ⟨M2, ?_, s2, p2.trans ?_⟩
      · unfold Go.Sort.insOuter
        rw [if_pos (by omega)]
        have e0 : P ++ (M ++ (y :: R ++ Z)) = P ++ ((M ++ y :: []) ++ (R ++ Z)) := by simp
        rw [e0, e1, ← e2, l1, show P.length + (M.length + (r + 1)) = P.length + (M.length + 1 + r) by omega, show P.length + M.length + 1 = P.length + (M.length + 1) by omega]
      · refine (List.Perm.append_right R p1).trans ?_
        rw [List.append_assoc]
        exact List.Perm.refl _
theorem sm_insertion (tr : ∀ x y z, T x y → T y z → T x z) (P X Z : List α) (hX : X.Pairwise (LtOf T lt)) :
    ∃ M, Go.Sort.insertionSort lt (P ++ (X ++ Z)).toArray P.length (P.length + X.length) = (P ++ (M ++ Z)).toArray ∧ M.Pairwise T ∧ M.Perm X := by
  unfold Go.Sort.insertionSort
  cases X with
  | nil =>
    refine ⟨[], ?_, List.Pairwise.nil, List.Perm.refl _⟩
    unfold Go.Sort.insOuter
    rw [if_neg (by simp)]
  | cons x X =>
    rw [List.pairwise_cons] at hX
    obtain ⟨M, e, s, p⟩ := sm_outer (lt := lt) tr X.length P [x] X Z rfl (List.pairwise_singleton _ _) (fun u hu v hv => by
      have : u = x := by simpa using hu
      subst this; exact hX.1 v hv) hX.2
    refine ⟨M, ?_, s, p⟩
    rw [← e]
    rw [show P.length + (x :: X).length = P.length + ([x].length + X.length) by simp only [List.length_cons, List.length_nil]; omega]
    rfl
end
end Go.Proofs.Ytcnpbaldnhfebaa
