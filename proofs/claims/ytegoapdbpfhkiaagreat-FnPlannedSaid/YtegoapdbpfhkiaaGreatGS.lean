/- GS: SM, SU, SV, SW, SX, SY, SZ in one text. -/
import Derived.Test.YtegoapdbpfhkiaaGreatGA
import Derived.Sort.Defs
import Derived.Shelf.SlSortCmp.Kit1
import Derived.Sort.WalkB2
import Derived.Deep.LoopGhost
import Derived.Sort.WalkB12
import Derived.Test.YtegoapdbpfhkiaaGreatRows
import Derived.Deep.DeepCutAuto
import Derived.Shelf.SlSortCmp.Insertion1
/- The merge in place of the library's stable sort, plainly: where both parts are cut, and what is joined. Of no program. -/
namespace Go.Proofs.YtegoapdbpfhkiaaGreat
set_option linter.unusedVariables false

section
variable {α : Type} [Inhabited α] {T : α → α → Prop} {lt : α → α → Bool}
theorem sm_getl {A B : List α} {i : Nat} (h : i < A.length) : (A ++ B).getD i default = A.getD i default := by
  rw [List.getD_eq_getElem?_getD, List.getD_eq_getElem?_getD, List.getElem?_append_left h]
theorem sm_getr {A B : List α} {i : Nat} : (A ++ B).getD (A.length + i) default = B.getD i default := by
  rw [List.getD_eq_getElem?_getD, List.getD_eq_getElem?_getD, List.getElem?_append_right (Nat.le_add_right _ _), Nat.add_sub_cancel_left]
theorem sm_before (tr : ∀ x y z, T x y → T y z → T x z) {A B : List α} (hA : A.Pairwise T) (hB : B.Pairwise T) (h : ∀ i, A.length = i + 1 → 0 < B.length → T (A.getD i default) (B.getD 0 default)) : ∀ x ∈ A, ∀ y ∈ B, T x y := by
  intro x hx y hy
  obtain ⟨i, hi, rfl⟩ := List.getElem_of_mem hx
  obtain ⟨j, hj, rfl⟩ := List.getElem_of_mem hy
  have h0 := h (A.length - 1) (by omega) (by omega)
  rw [List.getD_eq_getElem?_getD, List.getElem?_eq_getElem (by omega), Option.getD_some, List.getD_eq_getElem?_getD, List.getElem?_eq_getElem (by omega), Option.getD_some] at h0
  have h1 : i = A.length - 1 ∨ T A[i] (A[A.length - 1]'(by omega)) := by
    by_cases e : i = A.length - 1
    · exact .inl e
    · exact .inr (List.pairwise_iff_getElem.1 hA i (A.length - 1) hi (by omega) (by omega))
  have h2 : j = 0 ∨ T (B[0]'(by omega)) B[j] := by
    by_cases e : j = 0
    · exact .inl e
    · exact .inr (List.pairwise_iff_getElem.1 hB 0 j (by omega) hj (by omega))
  have h3 : T A[i] (B[0]'(by omega)) := by
    rcases h1 with e | e
    · subst e; exact h0
    · exact tr _ _ _ e h0
  rcases h2 with e | e
  · subst e; exact h3
  · exact tr _ _ _ h3 e
omit [Inhabited α] in
theorem sm_join {L1 L2 R1 R2 M1 M2 : List α} (p1 : M1.Perm (L1 ++ R1)) (s1 : M1.Pairwise T) (p2 : M2.Perm (L2 ++ R2)) (s2 : M2.Pairwise T) (h : ∀ x ∈ L1 ++ R1, ∀ y ∈ L2 ++ R2, T x y) :
    (M1 ++ M2).Pairwise T ∧ (M1 ++ M2).Perm ((L1 ++ L2) ++ (R1 ++ R2)) := by
  refine ⟨List.pairwise_append.2 ⟨s1, s2, fun x hx y hy => h x (p1.mem_iff.1 hx) y (p2.mem_iff.1 hy)⟩, ?_⟩
  refine (p1.append p2).trans ?_
  have e1 : (L1 ++ R1) ++ (L2 ++ R2) = L1 ++ ((R1 ++ L2) ++ R2) := by simp
  have e2 : (L1 ++ L2) ++ (R1 ++ R2) = L1 ++ ((L2 ++ R1) ++ R2) := by simp
  rw [e1, e2]
  exact List.Perm.append_left _ (List.Perm.append_right _ List.perm_append_comm)
/-- How comparisons of the right part with the left one speak of the order. -/
def CmpOf (T : α → α → Prop) (lt : α → α → Bool) (L R : List α) : Prop := ∀ x ∈ L, ∀ y ∈ R, (lt y x = true → T y x) ∧ (lt y x = false → T x y)
theorem sm_mem {A : List α} {i : Nat} (h : i < A.length) : A.getD i default ∈ A := by
  rw [List.getD_eq_getElem?_getD, List.getElem?_eq_getElem h, Option.getD_some]
  exact List.getElem_mem h
/-- Behind the search: both parts cut, what goes left goes ahead of what goes right. -/
theorem sm_split (tr : ∀ x y z, T x y → T y z → T x z) {P L R S : List α} (hL : L.Pairwise T) (hR : R.Pairwise T) (hc : CmpOf T lt L R) {s n : Nat} (hn : n = (P.length + (P.length + L.length + R.length)) / 2 + (P.length + L.length))
    (h1 : P.length ≤ s) (h2 : s ≤ P.length + L.length) (h3 : P.length + L.length + s ≤ n) (h4 : n ≤ P.length + L.length + R.length + s)
    (hlo : s = P.length ∨ n = P.length + L.length + R.length + s ∨ lt ((P ++ (L ++ (R ++ S))).getD (n - s) default) ((P ++ (L ++ (R ++ S))).getD (s - 1) default) = false)
    (hhi : s = P.length + L.length ∨ n = P.length + L.length + s ∨ lt ((P ++ (L ++ (R ++ S))).getD (n - 1 - s) default) ((P ++ (L ++ (R ++ S))).getD s default) = true) :
    ∃ L1 L2 R1 R2, L = L1 ++ L2 ∧ R = R1 ++ R2 ∧ L1.length = s - P.length ∧ R1.length = n - s - (P.length + L.length) ∧ ∀ x ∈ L1 ++ R1, ∀ y ∈ L2 ++ R2, T x y := by
  have zL : ∀ i, i < L.length → (P ++ (L ++ (R ++ S))).getD (P.length + i) default = L.getD i default := fun i hi => by rw [sm_getr, sm_getl hi]
  have zR : ∀ i, i < R.length → (P ++ (L ++ (R ++ S))).getD (P.length + L.length + i) default = R.getD i default := fun i hi => by rw [Nat.add_assoc, sm_getr, sm_getr, sm_getl hi]
  obtain ⟨i, rfl⟩ : ∃ i, s = P.length + i := ⟨s - P.length, by omega⟩
  obtain ⟨j, hj⟩ : ∃ j, n = P.length + i + (P.length + L.length + j) := ⟨n - (P.length + i) - (P.length + L.length), by omega⟩
  have hi : i ≤ L.length := by omega
  have hjr : j ≤ R.length := by omega
  have eL : L = L.take i ++ L.drop i := (List.take_append_drop i L).symm
  have eR : R = R.take j ++ R.drop j := (List.take_append_drop j R).symm
  have pL := hL; rw [eL, List.pairwise_append] at pL
  have pR := hR; rw [eR, List.pairwise_append] at pR
  refine ⟨L.take i, L.drop i, R.take j, R.drop j, eL, eR, by rw [List.length_take]; omega, by rw [List.length_take]; omega, ?_⟩
  have tk : ∀ (A : List α) (k q : Nat), q < k → (A.take k).getD q default = A.getD q default := fun A k q h => by rw [List.getD_eq_getElem?_getD, List.getD_eq_getElem?_getD, List.getElem?_take, if_pos h]
  have dk : ∀ (A : List α) (k : Nat), (A.drop k).getD 0 default = A.getD k default := fun A k => by rw [List.getD_eq_getElem?_getD, List.getD_eq_getElem?_getD, List.getElem?_drop]; rfl
  have a1 : ∀ x ∈ L.take i, ∀ y ∈ R.drop j, T x y := sm_before tr pL.1 pR.2.1 fun q hq hl => by
    rw [List.length_take] at hq
    rw [List.length_drop] at hl
    rw [tk _ _ _ (by omega), dk]
    rcases hlo with e | e | e
    · omega
    · omega
    · rw [show n - (P.length + i) = P.length + L.length + j by omega, zR j (by omega), show P.length + i - 1 = P.length + q by omega, zL q (by omega)] at e
      exact (hc _ (sm_mem (by omega)) _ (sm_mem (by omega))).2 e
  have a2 : ∀ x ∈ R.take j, ∀ y ∈ L.drop i, T x y := sm_before tr pR.1 pL.2.1 fun q hq hl => by
    rw [List.length_take] at hq
    rw [List.length_drop] at hl
    rw [tk _ _ _ (by omega), dk]
    rcases hhi with e | e | e
    · omega
    · omega
    · rw [show n - 1 - (P.length + i) = P.length + L.length + q by omega, zR q (by omega), zL i (by omega)] at e
      exact (hc _ (sm_mem (by omega)) _ (sm_mem (by omega))).1 e
  intro x hx y hy
  rcases List.mem_append.1 hx with hx | hx <;> rcases List.mem_append.1 hy with hy | hy
  · exact pL.2.2 x hx y hy
  · exact a1 x hx y hy
  · exact a2 x hx y hy
  · exact pR.2.2 x hx y hy
omit [Inhabited α] in
theorem CmpOf.sub {L R L' R' : List α} (h : CmpOf T lt L R) (h1 : ∀ x ∈ L', x ∈ L) (h2 : ∀ x ∈ R', x ∈ R) : CmpOf T lt L' R' := fun x hx y hy => h x (h1 x hx) y (h2 y hy)
/-- One element put into the right part. -/
theorem sm_one (tr : ∀ x y z, T x y → T y z → T x z) {x : α} {R : List α} (hR : R.Pairwise T) (hc : CmpOf T lt [x] R) {i : Nat} (hi : i ≤ R.length) (hlo : i = 0 ∨ lt (R.getD (i - 1) default) x = true) (hhi : i = R.length ∨ lt (R.getD i default) x = false) :
    (R.take i ++ x :: R.drop i).Pairwise T ∧ (R.take i ++ x :: R.drop i).Perm (x :: R) := by
  have pR := hR; rw [← List.take_append_drop i R, List.pairwise_append] at pR
  have tk : ∀ (A : List α) (k q : Nat), q < k → (A.take k).getD q default = A.getD q default := fun A k q h => by rw [List.getD_eq_getElem?_getD, List.getD_eq_getElem?_getD, List.getElem?_take, if_pos h]
  have dk : ∀ (A : List α) (k : Nat), (A.drop k).getD 0 default = A.getD k default := fun A k => by rw [List.getD_eq_getElem?_getD, List.getD_eq_getElem?_getD, List.getElem?_drop]; rfl
  have s1 : ([x] : List α).Pairwise T := List.pairwise_singleton _ _
  have a1 : ∀ y ∈ R.take i, ∀ z ∈ [x], T y z := sm_before tr pR.1 s1 fun q hq hl => by
    rw [List.length_take] at hq
    rw [tk _ _ _ (by omega)]
    rcases hlo with e | e
    · omega
    · rw [show i - 1 = q by omega] at e
      exact (hc x (by simp) _ (sm_mem (by omega))).1 e
  have a2 : ∀ y ∈ [x], ∀ z ∈ R.drop i, T y z := sm_before tr s1 pR.2.1 fun q hq hl => by
    rw [List.length_drop] at hl
    simp at hq
    subst hq
    rw [dk]
    rcases hhi with e | e
    · omega
    · exact (hc x (by simp) _ (sm_mem (by omega))).2 e
  constructor
  · rw [List.pairwise_append, List.pairwise_cons]
    refine ⟨pR.1, ⟨fun z hz => a2 x (by simp) z hz, pR.2.1⟩, fun y hy z hz => ?_⟩
    rcases List.mem_cons.1 hz with e | e
    · subst e; exact a1 y hy _ (by simp)
    · exact pR.2.2 y hy z e
  · have := List.perm_middle (a := x) (l₁ := R.take i) (l₂ := R.drop i)
    rwa [List.take_append_drop] at this
theorem sm_last (tr : ∀ x y z, T x y → T y z → T x z) {y : α} {L : List α} (hL : L.Pairwise T) (hc : CmpOf T lt L [y]) {i : Nat} (hi : i ≤ L.length) (hlo : i = 0 ∨ lt y (L.getD (i - 1) default) = false) (hhi : i = L.length ∨ lt y (L.getD i default) = true) :
    (L.take i ++ y :: L.drop i).Pairwise T ∧ (L.take i ++ y :: L.drop i).Perm (L ++ [y]) := by
  have pR := hL; rw [← List.take_append_drop i L, List.pairwise_append] at pR
  have tk : ∀ (A : List α) (k q : Nat), q < k → (A.take k).getD q default = A.getD q default := fun A k q h => by rw [List.getD_eq_getElem?_getD, List.getD_eq_getElem?_getD, List.getElem?_take, if_pos h]
  have dk : ∀ (A : List α) (k : Nat), (A.drop k).getD 0 default = A.getD k default := fun A k => by rw [List.getD_eq_getElem?_getD, List.getD_eq_getElem?_getD, List.getElem?_drop]; rfl
  have s1 : ([y] : List α).Pairwise T := List.pairwise_singleton _ _
  have a1 : ∀ u ∈ L.take i, ∀ z ∈ [y], T u z := sm_before tr pR.1 s1 fun q hq hl => by
    rw [List.length_take] at hq
    rw [tk _ _ _ (by omega)]
    rcases hlo with e | e
    · omega
    · rw [show i - 1 = q by omega] at e
      exact (hc _ (sm_mem (by omega)) y (by simp)).2 e
  have a2 : ∀ u ∈ [y], ∀ z ∈ L.drop i, T u z := sm_before tr s1 pR.2.1 fun q hq hl => by
    rw [List.length_drop] at hl
    simp at hq
    subst hq
    rw [dk]
    rcases hhi with e | e
    · omega
    · exact (hc _ (sm_mem (by omega)) y (by simp)).1 e
  constructor
  · rw [List.pairwise_append, List.pairwise_cons]
    refine ⟨pR.1, ⟨fun z hz => a2 y (by simp) z hz, pR.2.1⟩, fun u hu z hz => ?_⟩
    rcases List.mem_cons.1 hz with e | e
    · subst e; exact a1 u hu _ (by simp)
    · exact pR.2.2 u hu z e
  · have h1 := List.perm_middle (a := y) (l₁ := L.take i) (l₂ := L.drop i)
    rw [List.take_append_drop] at h1
    exact h1.trans (List.perm_append_singleton y L).symm
theorem la_get (l : List α) (i : Nat) : l.toArray[i]! = l.getD i default := by
  rw [List.getElem!_toArray, getElem!_def, List.getD_eq_getElem?_getD]
  cases l[i]? <;> rfl
theorem sw_mid {X Y Z : List α} {a b : α} {i j : Nat} (hi : X.length = i) (hj : X.length + 1 + Y.length = j) :
    Go.Sort.swp (X ++ a :: (Y ++ b :: Z)).toArray i j = (X ++ b :: (Y ++ a :: Z)).toArray := by
  subst hi; subst hj
  have e1 : (X ++ a :: (Y ++ b :: Z)).toArray[X.length]! = a := by
    rw [la_get, List.getD_eq_getElem?_getD, List.getElem?_append_right (Nat.le_refl _), Nat.sub_self]; rfl
  have e2 : (X ++ a :: (Y ++ b :: Z)).toArray[X.length + 1 + Y.length]! = b := by
    rw [la_get, List.getD_eq_getElem?_getD, List.getElem?_append_right (by omega), show X.length + 1 + Y.length - X.length = Y.length + 1 by omega, List.getElem?_cons_succ, List.getElem?_append_right (Nat.le_refl _), Nat.sub_self]; rfl
  unfold Go.Sort.swp
  rw [e1, e2]
  apply Array.ext'
  rw [Array.toList_setIfInBounds, Array.toList_setIfInBounds]
  show ((X ++ a :: (Y ++ b :: Z)).set X.length b).set (X.length + 1 + Y.length) a = X ++ b :: (Y ++ a :: Z)
  rw [List.set_append_right _ _ (Nat.le_refl _), Nat.sub_self, List.set_cons_zero, List.set_append_right _ _ (by omega), show X.length + 1 + Y.length - X.length = Y.length + 1 by omega, List.set_cons_succ, List.set_append_right _ _ (Nat.le_refl _), Nat.sub_self, List.set_cons_zero]
theorem sw_mid' {X Y Z : List α} {a b : α} {i j : Nat} (hi : X.length = i) (hj : X.length + 1 + Y.length = j) :
    Go.Sort.swp (X ++ a :: (Y ++ b :: Z)).toArray j i = (X ++ b :: (Y ++ a :: Z)).toArray := by
  rw [← sw_mid (Z := Z) (a := a) (b := b) hi hj]
  have hne : i ≠ j := by omega
  unfold Go.Sort.swp
  apply Array.ext'
  simp only [Array.toList_setIfInBounds]
  exact List.set_comm _ _ (Ne.symm hne)
/-- Two ranges of one length, of which the first i elements are exchanged. -/
def swR (P A Q B S : List α) (i : Nat) : List α := P ++ ((B.take i ++ A.drop i) ++ (Q ++ ((A.take i ++ B.drop i) ++ S)))
omit [Inhabited α] in
theorem swR_zero (P A Q B S : List α) : swR P A Q B S 0 = P ++ (A ++ (Q ++ (B ++ S))) := by simp [swR]
omit [Inhabited α] in
theorem swR_end {P A Q B S : List α} {n : Nat} (hA : A.length = n) (hB : B.length = n) : swR P A Q B S n = P ++ (B ++ (Q ++ (A ++ S))) := by
  unfold swR
  rw [List.take_of_length_le (by omega), List.take_of_length_le (by omega), List.drop_of_length_le (by omega), List.drop_of_length_le (by omega), List.append_nil, List.append_nil]
omit [Inhabited α] in
theorem swR_len {P A Q B S : List α} {n : Nat} (hA : A.length = n) (hB : B.length = n) (i : Nat) : (swR P A Q B S i).length = P.length + n + Q.length + n + S.length := by
  unfold swR
  simp only [List.length_append, List.length_take, List.length_drop]
  omega
theorem swR_step {P A Q B S : List α} {n i : Nat} (hA : A.length = n) (hB : B.length = n) (hi : i < n) :
    Go.Sort.swp (swR P A Q B S i).toArray (P.length + i) (P.length + n + Q.length + i) = (swR P A Q B S (i + 1)).toArray := by
  have eA : A.drop i = A[i]'(by omega) :: A.drop (i + 1) := List.drop_eq_getElem_cons (by omega)
  have eB : B.drop i = B[i]'(by omega) :: B.drop (i + 1) := List.drop_eq_getElem_cons (by omega)
  have e1 : swR P A Q B S i = (P ++ B.take i) ++ A[i]'(by omega) :: ((A.drop (i + 1) ++ Q ++ A.take i) ++ B[i]'(by omega) :: (B.drop (i + 1) ++ S)) := by
    unfold swR; rw [eA, eB]; simp only [List.append_assoc, List.cons_append]
  have e2 : swR P A Q B S (i + 1) = (P ++ B.take i) ++ B[i]'(by omega) :: ((A.drop (i + 1) ++ Q ++ A.take i) ++ A[i]'(by omega) :: (B.drop (i + 1) ++ S)) := by
    unfold swR; rw [List.take_succ_eq_append_getElem (by omega), List.take_succ_eq_append_getElem (by omega)]; simp only [List.append_assoc, List.cons_append, List.nil_append]
  rw [e1, e2]
  refine sw_mid ?_ ?_ <;> simp only [List.length_append, List.length_take, List.length_drop] <;> omega
/-- One element on its way through a list. -/
def bub (P : List α) (x : α) (R S : List α) (t : Nat) : List α := P ++ (R.take t ++ x :: (R.drop t ++ S))
omit [Inhabited α] in
theorem bub_len (P : List α) (x : α) (R S : List α) (t : Nat) : (bub P x R S t).length = P.length + (R.length + 1) + S.length := by
  unfold bub
  simp only [List.length_append, List.length_take, List.length_drop, List.length_cons]
  omega
theorem bub_up {P R S : List α} {x : α} {t i j : Nat} (ht : t < R.length) (hi : P.length + t = i) (hj : i + 1 = j) : Go.Sort.swp (bub P x R S t).toArray i j = (bub P x R S (t + 1)).toArray := by
  have eR : R.drop t = R[t] :: R.drop (t + 1) := List.drop_eq_getElem_cons ht
  have e1 : bub P x R S t = (P ++ R.take t) ++ x :: ([] ++ R[t] :: (R.drop (t + 1) ++ S)) := by
    unfold bub; rw [eR]; simp only [List.append_assoc, List.cons_append, List.nil_append]
  have e2 : bub P x R S (t + 1) = (P ++ R.take t) ++ R[t] :: ([] ++ x :: (R.drop (t + 1) ++ S)) := by
    unfold bub; rw [List.take_succ_eq_append_getElem ht]; simp only [List.append_assoc, List.cons_append, List.nil_append]
  rw [e1, e2]
  refine sw_mid ?_ ?_ <;> simp only [List.length_append, List.length_take, List.length_nil] <;> omega
theorem bub_down {P R S : List α} {x : α} {t i j : Nat} (ht : t < R.length) (hi : P.length + t = i) (hj : i + 1 = j) : Go.Sort.swp (bub P x R S (t + 1)).toArray j i = (bub P x R S t).toArray := by
  have eR : R.drop t = R[t] :: R.drop (t + 1) := List.drop_eq_getElem_cons ht
  have e1 : bub P x R S t = (P ++ R.take t) ++ x :: ([] ++ R[t] :: (R.drop (t + 1) ++ S)) := by
    unfold bub; rw [eR]; simp only [List.append_assoc, List.cons_append, List.nil_append]
  have e2 : bub P x R S (t + 1) = (P ++ R.take t) ++ R[t] :: ([] ++ x :: (R.drop (t + 1) ++ S)) := by
    unfold bub; rw [List.take_succ_eq_append_getElem ht]; simp only [List.append_assoc, List.cons_append, List.nil_append]
  rw [e1, e2]
  refine sw_mid' ?_ ?_ <;> simp only [List.length_append, List.length_take, List.length_nil] <;> omega
omit [Inhabited α] in
theorem bub_zero (P : List α) (x : α) (R S : List α) : bub P x R S 0 = P ++ (x :: R ++ S) := by simp [bub]
omit [Inhabited α] in
theorem bub_end (P : List α) (x : α) (R S : List α) : bub P x R S R.length = P ++ ((R ++ [x]) ++ S) := by simp [bub]
omit [Inhabited α] in
theorem bub_mid (P : List α) (x : α) (R S : List α) (t : Nat) : bub P x R S t = P ++ ((R.take t ++ x :: R.drop t) ++ S) := by simp [bub]
/-- What a comparison of a later element with an earlier one says. -/
def LtOf (T : α → α → Prop) (lt : α → α → Bool) (x y : α) : Prop := (lt y x = true → T y x) ∧ (lt y x = false → T x y)
theorem sm_inner (tr : ∀ x y z, T x y → T y z → T x z) : ∀ (k : Nat) (P M1 M2 Z : List α) (y : α), M1.length = k → (M1 ++ M2).Pairwise T → (∀ m ∈ M2, T y m) → (∀ x ∈ M1, LtOf T lt x y) →
    ∃ M, Go.Sort.insInner lt P.length (P.length + k) (P ++ ((M1 ++ y :: M2) ++ Z)).toArray = (P ++ (M ++ Z)).toArray ∧ M.Pairwise T ∧ M.Perm (M1 ++ y :: M2) := by
  intro k
  induction k with
  | zero =>
    intro P M1 M2 Z y h1 hp hy hc
    have e : M1 = [] := List.eq_nil_of_length_eq_zero h1
    subst e
    refine ⟨y :: M2, ?_, List.pairwise_cons.2 ⟨hy, by simpa using hp⟩, List.Perm.refl _⟩
    rw [Nat.add_zero, List.nil_append]
    cases hP : P.length with
    | zero => rfl
    | succ n => unfold Go.Sort.insInner; simp
  | succ k ih =>
    intro P M1 M2 Z y h1 hp hy hc
    obtain ⟨o, z, rfl⟩ : ∃ o z, M1 = o ++ [z] := by
      have hne : M1 ≠ [] := by intro e; subst e; simp at h1
      exact ⟨M1.dropLast, M1.getLast hne, (List.dropLast_concat_getLast hne).symm⟩
    have ho : o.length = k := by simpa using h1
    have eq1 : P ++ (((o ++ [z]) ++ y :: M2) ++ Z) = (P ++ o) ++ z :: ([] ++ y :: (M2 ++ Z)) := by simp
    have g1 : (P ++ (((o ++ [z]) ++ y :: M2) ++ Z)).toArray[P.length + k + 1]! = y := by
      rw [eq1, la_get, List.getD_eq_getElem?_getD, List.getElem?_append_right (by rw [List.length_append]; omega), List.length_append, show P.length + k + 1 - (P.length + o.length) = 1 by omega]; rfl
    have g0 : (P ++ (((o ++ [z]) ++ y :: M2) ++ Z)).toArray[P.length + k]! = z := by
      rw [eq1, la_get, List.getD_eq_getElem?_getD, List.getElem?_append_right (by rw [List.length_append]; omega), List.length_append, show P.length + k - (P.length + o.length) = 0 by omega]; rfl
    have hz := hc z (by simp)
    rw [show P.length + (k + 1) = P.length + k + 1 by omega]
    unfold Go.Sort.insInner
    rw [g1, g0, decide_eq_true (show P.length + k + 1 > P.length by omega), Bool.true_and]
    rw [List.append_assoc, List.pairwise_append] at hp
    cases hl : lt y z with
    | true =>
      rw [if_pos rfl, eq1, sw_mid' (X := P ++ o) (Y := []) (by rw [List.length_append]; omega) (by rw [List.length_append, List.length_nil]; omega)]
      have e2 : (P ++ o) ++ y :: ([] ++ z :: (M2 ++ Z)) = P ++ ((o ++ y :: (z :: M2)) ++ Z) := by simp
      rw [e2]
      obtain ⟨M, e, s, p⟩ := ih P o (z :: M2) Z y ho (by rw [List.pairwise_append]; exact hp) (fun m hm => by
        rcases List.mem_cons.1 hm with h | h
        · subst h; exact hz.1 hl
        · exact hy m h) (fun x hx => hc x (by simp [hx]))
      refine ⟨M, e, s, p.trans ?_⟩
      rw [List.append_assoc, List.singleton_append]
      exact List.Perm.append_left _ (List.Perm.swap _ _ _)
    | false =>
      rw [if_neg (by simp)]
      refine ⟨(o ++ [z]) ++ y :: M2, rfl, ?_, List.Perm.refl _⟩
      have tz := hz.2 hl
      rw [List.append_assoc, List.pairwise_append]
      have hz2 := List.pairwise_cons.1 hp.2.1
      refine ⟨hp.1, List.pairwise_cons.2 ⟨fun m hm => ?_, List.pairwise_cons.2 ⟨hy, hz2.2⟩⟩, fun x hx m hm => ?_⟩
      · rcases List.mem_cons.1 hm with h | h
        · subst h; exact tz
        · exact hz2.1 m h
      · have xz := hp.2.2 x hx z (by simp)
        rcases List.mem_cons.1 hm with h | h
        · subst h; exact xz
        · rcases List.mem_cons.1 h with h | h
          · subst h; exact tr _ _ _ xz tz
          · exact hp.2.2 x hx m (by simp [h])
theorem sm_outer (tr : ∀ x y z, T x y → T y z → T x z) : ∀ (r : Nat) (P M R Z : List α), R.length = r → M.Pairwise T → (∀ x ∈ M, ∀ y ∈ R, LtOf T lt x y) → R.Pairwise (LtOf T lt) →
    ∃ M', Go.Sort.insOuter lt P.length (P.length + (M.length + r)) (P.length + M.length) (P ++ (M ++ (R ++ Z))).toArray = (P ++ (M' ++ Z)).toArray ∧ M'.Pairwise T ∧ M'.Perm (M ++ R) := by
  intro r
  induction r with
  | zero =>
    intro P M R Z h1 hM hc hR
    have e : R = [] := List.eq_nil_of_length_eq_zero h1
    subst e
    refine ⟨M, ?_, hM, by simp⟩
    unfold Go.Sort.insOuter
    rw [if_neg (by omega)]
    rfl
  | succ r ih =>
    intro P M R Z h1 hM hc hR
    cases R with
    | nil => simp at h1
    | cons y R =>
      rw [List.pairwise_cons] at hR
      obtain ⟨M1, e1, s1, p1⟩ := sm_inner (lt := lt) tr M.length P M [] (R ++ Z) y rfl (by simpa using hM) (by simp) (fun x hx => hc x hx y (by simp))
      have l1 : M1.length = M.length + 1 := by rw [p1.length_eq]; simp
      obtain ⟨M2, e2, s2, p2⟩ := ih P M1 R Z (by simpa using h1) s1 (fun x hx v hv => by
        rcases List.mem_append.1 (p1.mem_iff.1 hx) with h | h
        · exact hc x h v (by simp [hv])
        · have : x = y := by simpa using h
          subst this; exact hR.1 v hv) hR.2
      refine ⟨M2, ?_, s2, p2.trans ?_⟩
      · unfold Go.Sort.insOuter
        rw [if_pos (by omega)]
        have e0 : P ++ (M ++ (y :: R ++ Z)) = P ++ ((M ++ y :: []) ++ (R ++ Z)) := by simp
        rw [e0, e1, ← e2, l1, show P.length + (M.length + (r + 1)) = P.length + (M.length + 1 + r) by omega, show P.length + M.length + 1 = P.length + (M.length + 1) by omega]
      · refine (List.Perm.append_right R p1).trans ?_
        rw [List.append_assoc]
        exact List.Perm.refl _
theorem sm_insertion (tr : ∀ x y z, T x y → T y z → T x z) (P X Z : List α) (hX : X.Pairwise (LtOf T lt)) :
    ∃ M, Go.Sort.insertionSort lt (P ++ (X ++ Z)).toArray P.length (P.length + X.length) = (P ++ (M ++ Z)).toArray ∧ M.Pairwise T ∧ M.Perm X := by
  unfold Go.Sort.insertionSort
  cases X with
  | nil =>
    refine ⟨[], ?_, List.Pairwise.nil, List.Perm.refl _⟩
    unfold Go.Sort.insOuter
    rw [if_neg (by simp)]
  | cons x X =>
    rw [List.pairwise_cons] at hX
    obtain ⟨M, e, s, p⟩ := sm_outer (lt := lt) tr X.length P [x] X Z rfl (List.pairwise_singleton _ _) (fun u hu v hv => by
      have : u = x := by simpa using hu
      subst this; exact hX.1 v hv) hX.2
    refine ⟨M, ?_, s, p⟩
    rw [← e]
    rw [show P.length + (x :: X).length = P.length + ([x].length + X.length) by simp only [List.length_cons, List.length_nil]; omega]
    rfl
end
end Go.Proofs.YtegoapdbpfhkiaaGreat

/- The library's merges in place: the exchange of two ranges, the rotation. -/
namespace Go.Proofs.YtegoapdbpfhkiaaGreat
open Go.RowKit Go.Sort
set_option linter.unusedVariables false

/-- Elements that are numbers. -/
abbrev eI {α : Type} (v : α → Int) : α → Value := fun x => .int .i64 (v x)
section
variable {α : Type} [Inhabited α] {v : α → Int} {w0 w : World} {blk off : Nat} {d0 d : Array α}
theorem sw_at1 (h : SW (eI v) w0 blk off d w) (R : Row1 (eI v) w0 blk off d0) (hs : d.size = d0.size) {i p : Nat} (hp : i = p) (hi : i < d.size) : w.cell? ⟨blk, off + p, none⟩ = some (.int .i64 (v d[i]!)) := by subst hp; exact h.c1 R hs i hi
theorem sw_atl (h : SW (eI v) w0 blk off d w) (R : Row1 (eI v) w0 blk off d0) (hs : d.size = d0.size) {i p : Nat} (hp : i = p) (hi : i < d.size) (n : Nat) (os : Array Obj) : (grow (w.drewN n) os).cell? ⟨blk, off + p, none⟩ = some (.int .i64 (v d[i]!)) := by subst hp; exact h.cl R hs i hi n os
theorem sw_fr1 (h : SW (eI v) w0 blk off d w) (R : Row1 (eI v) w0 blk off d0) (hs : d.size = d0.size) {i p : Nat} (hp : i = p) (hi : i < d.size) : w.frozen? ⟨blk, off + p, none⟩ = false := by subst hp; exact h.f1 R hs i hi
theorem sw_ex1 (h : SW (eI v) w0 blk off d w) (R : Row1 (eI v) w0 blk off d0) {d' : Array α} {i j p q : Nat} (hp : i = p) (hq : j = q) (hi : i < d.size) (hj : j < d.size) (he : swp d i j = d') :
    SW (eI v) w0 blk off d' ((w.setCell ⟨blk, off + p, none⟩ (.int .i64 (v d[j]!))).setCell ⟨blk, off + q, none⟩ (.int .i64 (v d[i]!))).drew := by subst hp; subst hq; subst he; exact h.swapped R i j hi hj
end

set_option maxHeartbeats 4000000 in
set_option maxRecDepth 1000000 in
theorem swapRange_m {α : Type} [Inhabited α] (v : α → Int) (fv : Value) (blk off cap : Nat) (d0 : Array α) (w0 w : World) (R : Row1 (eI v) w0 blk off d0) (P A Q B Z : List α) (n a b : Nat) (hA : A.length = n) (hB : B.length = n) (ha : P.length = a) (hb : P.length + n + Q.length = b) (hs : b + n + Z.length = d0.size)
    (S : SW (eI v) w0 blk off (P ++ (A ++ (Q ++ (B ++ Z)))).toArray w) (hsz : d0.size < 4611686018427387904) :
    Calls Tryz.prog 136 #[.slice (some ⟨blk, off, none⟩) d0.size cap, .int .i64 a, .int .i64 b, .int .i64 n, fv] w fun e w' => e = .returned (.tuple #[]) ∧ SW (eI v) w0 blk off (P ++ (B ++ (Q ++ (A ++ Z)))).toArray w' := by
  have LEN : Hid (∀ i, (swR P A Q B Z i).toArray.size = d0.size) := fun i => by rw [List.size_toArray, swR_len hA hB]; omega
  have STP : Hid (∀ i, i < n → swp (swR P A Q B Z i).toArray (a + i) (b + i) = (swR P A Q B Z (i + 1)).toArray) := fun i hi => by rw [← swR_step hA hB hi, ha, ← hb, ha]
  have hab : a + n ≤ b := by omega
  have S0 := hide S
  rw [← swR_zero] at S0
  rw [← swR_end hA hB]
  generalize swR P A Q B Z = f at *
  have RR := hide R
  clear S R ha hb hA hB
  have mixed : Tryz.prog.follows .mixedOrders = true := by kernel_rfl
  go_enter Tryz.func136, Tryz.ntmps136
  go_wp2
  go_loopw [10] (fun vi wr => ∃ i : Nat, vi = .int .i64 i ∧ i ≤ n ∧ Hid (SW (eI v) w0 blk off (f i).toArray wr)) (fun vi _ => n - (intOf vi).toNat)
  case atStart => exact ⟨0, by go_num, Nat.zero_le _, S0⟩
  case round =>
    obtain ⟨i, rfl, hi, S1⟩ := hrel
    by_cases hlt : i < n
    · have hltz : (i : Int) < (n : Int) := by omega
      obtain ⟨p, hp⟩ : ∃ p, Hid (a + i = p) := ⟨_, rfl⟩
      obtain ⟨q, hq⟩ : ∃ q, Hid (b + i = q) := ⟨_, rfl⟩
      have l1 := LEN.out i
      have pb : p < d0.size := by have := hp.out; omega
      have qb : q < d0.size := by have := hq.out; omega
      have wp : IntKind.i64.wrap ((a : Int) + (i : Int)) = (p : Int) := by rw [IntWalk.i64_in _ (by omega)]; have := hp.out; omega
      have wq : IntKind.i64.wrap ((b : Int) + (i : Int)) = (q : Int) := by rw [IntWalk.i64_in _ (by omega)]; have := hq.out; omega
      have i1 : (p : Int) < (d0.size : Int) := by omega
      have i2 : (q : Int) < (d0.size : Int) := by omega
      have c1 := sw_at1 S1.out RR.out l1 hp.out (by rw [l1, hp.out]; exact pb)
      have c2 := sw_at1 S1.out RR.out l1 hq.out (by rw [l1, hq.out]; exact qb)
      have f1 := sw_fr1 S1.out RR.out l1 hp.out (by rw [l1, hp.out]; exact pb)
      have f2 := sw_fr1 S1.out RR.out l1 hq.out (by rw [l1, hq.out]; exact qb)
      have S2 := hide (sw_ex1 S1.out RR.out hp.out hq.out (by rw [l1, hp.out]; exact pb) (by rw [l1, hq.out]; exact qb) (STP.out i hlt))
      obtain ⟨u, c3⟩ := S1.out.c2 RR.out l1 (a + i) (b + i) (by rw [l1, hp.out]; exact pb) (by rw [l1, hq.out]; exact qb) (.int .i64 (v (f i).toArray[b + i]!))
      rw [hp.out, hq.out] at c3
      rw [hp.out] at c1 S2
      rw [hq.out] at c2 S2
      clear S1 l1 hp hq pb qb
      generalize v (f i).toArray[p]! = x at *
      generalize v (f i).toArray[q]! = y at *
      go_wp2_with fail
      go_big_region_o
      clear c1 c2 c3 f1 f2
      generalize ((wr.setCell ⟨blk, off + p, none⟩ (.int .i64 y)).setCell ⟨blk, off + q, none⟩ (.int .i64 x)).drew = w3 at *
      go_wp2
      go_roundw
      case rel => exact ⟨i + 1, by go_num, by omega, S2⟩
      case measure => simp [intOf]; omega
    · have e : i = n := by omega
      subst e
      go_wp2
      go_end0
      exact ⟨rfl, S1.out⟩
end Go.Proofs.YtegoapdbpfhkiaaGreat

/- The library's rotation, and its merge in place where one part is a single element. -/
namespace Go.Proofs.YtegoapdbpfhkiaaGreat
open Go.RowKit Go.Sort
set_option linter.unusedVariables false

theorem td_app {α : Type} (j : Nat) (U W : List α) : U.take j ++ (U.drop j ++ W) = U ++ W := by rw [← List.append_assoc, List.take_append_drop]

set_option maxHeartbeats 4000000 in
set_option maxRecDepth 1000000 in
theorem rotate_m {α : Type} [Inhabited α] (v : α → Int) (fv : Value) (blk off cap : Nat) (d0 : Array α) (w0 w : World) (R : Row1 (eI v) w0 blk off d0) (P U V Z : List α) (a m b : Nat) (ha : P.length = a) (hm : a + U.length = m) (hb : m + V.length = b) (hs : b + Z.length = d0.size) (hU : 0 < U.length) (hV : 0 < V.length)
    (S : SW (eI v) w0 blk off (P ++ (U ++ (V ++ Z))).toArray w) (hsz : d0.size < 4611686018427387904) :
    Calls Tryz.prog 117 #[.slice (some ⟨blk, off, none⟩) d0.size cap, .int .i64 a, .int .i64 m, .int .i64 b, fv] w fun e w' => e = .returned (.tuple #[]) ∧ SW (eI v) w0 blk off (P ++ (V ++ (U ++ Z))).toArray w' := by
  obtain ⟨u, hu⟩ : ∃ u, Hid (U.length = u) := ⟨_, rfl⟩
  obtain ⟨l, hl⟩ : ∃ l, Hid (V.length = l) := ⟨_, rfl⟩
  rw [hu.out] at hm hU
  rw [hl.out] at hb hV
  have HA := hide ha
  have S0 := hide S
  have RR := hide R
  clear S R ha
  have w1 : IntKind.i64.wrap ((m : Int) - (a : Int)) = (u : Int) := by rw [IntWalk.i64_in _ (by omega)]; omega
  have w2 : IntKind.i64.wrap ((b : Int) - (m : Int)) = (l : Int) := by rw [IntWalk.i64_in _ (by omega)]; omega
  have HM := hide hm
  have HB := hide hb
  clear hm hb
  go_enter Tryz.func117, Tryz.ntmps117
  go_wp2
  go_loopw [10, 11] (fun s10 s11 wr => ∃ (X U' V' Y : List α) (i j : Nat), s10 = .int .i64 i ∧ s11 = .int .i64 j ∧ 0 < i ∧ 0 < j ∧ Hid (U'.length = i) ∧ Hid (V'.length = j) ∧ Hid (P.length + X.length + i = m) ∧ Hid (X.length + i + j + Y.length = u + l) ∧ Hid (X ++ (V' ++ (U' ++ Y)) = V ++ U) ∧ Hid (SW (eI v) w0 blk off (P ++ (X ++ (U' ++ (V' ++ (Y ++ Z))))).toArray wr)) (fun s10 s11 _ => (intOf s10).toNat + (intOf s11).toNat)
  case atStart => exact ⟨[], U, V, [], u, l, rfl, rfl, hU, hV, hu, hl, by show _ = _; have := HA.out; have := HM.out; simp only [List.length_nil]; omega, by show _ = _; simp only [List.length_nil]; omega, by show _ = _; simp, by show SW _ _ _ _ _ _; simpa using S0.out⟩
  case round =>
    obtain ⟨X, U', V', Y, i, j, rfl, rfl, hi, hj, hU', hV', hm', hn', he, S1⟩ := hrel
    obtain ⟨k, hk⟩ : ∃ k, Hid ((P ++ X).length = k) := ⟨_, rfl⟩
    have hkm : k + i = m := by have h1 := hk.out; have h2 := hm'.out; rw [List.length_append] at h1; omega
    have hbk : m + j + Y.length = b := by have h2 := hm'.out; have h3 := hn'.out; have h4 := HA.out; have h5 := HM.out; have h6 := HB.out; omega
    have wk : IntKind.i64.wrap ((m : Int) - (i : Int)) = (k : Int) := by rw [IntWalk.i64_in _ (by omega)]; omega
    have ib : i ≤ d0.size := by omega
    have jb : j ≤ d0.size := by omega
    have HK := hide hkm
    have HBK := hide hbk
    clear hkm hbk
    by_cases hij : i = j
    · subst hij
      have SS : Hid (SW (eI v) w0 blk off ((P ++ X) ++ (U' ++ ([] ++ (V' ++ (Y ++ Z))))).toArray wr) := by show SW _ _ _ _ _ _; simpa using S1.out
      have FSU : Hid (∀ wx, SW (eI v) w0 blk off ((P ++ X) ++ (V' ++ ([] ++ (U' ++ (Y ++ Z))))).toArray wx → SW (eI v) w0 blk off (P ++ (V ++ (U ++ Z))).toArray wx) := fun wx hx => by
        have e : (P ++ X) ++ (V' ++ ([] ++ (U' ++ (Y ++ Z)))) = P ++ ((X ++ (V' ++ (U' ++ Y))) ++ Z) := by simp
        rw [e, he.out] at hx
        simpa using hx
      have CC := hide (swapRange_m v fv blk off cap d0 w0 wr RR.out (P ++ X) U' [] V' (Y ++ Z) i k m hU'.out hV'.out hk.out (by have h1 := hk.out; have h2 := HK.out; rw [h1, List.length_nil]; omega) (by have := HBK.out; rw [List.length_append]; omega) SS.out hsz)
      clear SS S1 he
      go_wp2_with (go_at_call 136; refine CC.out.mono ?_; rintro e w' ⟨rfl, S3⟩)
      go_end0
      exact ⟨rfl, FSU.out _ S3⟩
    · have hijz : ¬ (i : Int) = (j : Int) := by omega
      by_cases hgt : j < i
      · have hgtz : (j : Int) < (i : Int) := by omega
        have wd : IntKind.i64.wrap ((i : Int) - (j : Int)) = ((i - j : Nat) : Int) := by rw [IntWalk.i64_in _ (by omega)]; omega
        have SS : Hid (SW (eI v) w0 blk off ((P ++ X) ++ (U'.take j ++ (U'.drop j ++ (V' ++ (Y ++ Z))))).toArray wr) := by
          show SW _ _ _ _ _ _
          rw [td_app]
          simpa using S1.out
        have tl : (U'.take j).length = j := by rw [List.length_take, hU'.out]; omega
        have dl : (U'.drop j).length = i - j := by rw [List.length_drop, hU'.out]
        have CC := hide (swapRange_m v fv blk off cap d0 w0 wr RR.out (P ++ X) (U'.take j) (U'.drop j) V' (Y ++ Z) j k m tl hV'.out hk.out (by have h1 := hk.out; have h2 := HK.out; rw [h1, dl]; omega) (by have := HBK.out; rw [List.length_append]; omega) SS.out hsz)
        have TL := hide tl
        have DL := hide dl
        clear SS S1 tl dl
        go_wp2_with (go_at_call 136; refine CC.out.mono ?_; rintro e w' ⟨rfl, S3⟩)
        go_roundw
        case rel =>
          refine ⟨X ++ V', U'.drop j, U'.take j, Y, i - j, j, rfl, rfl, by omega, hj, DL, TL, ?_, ?_, ?_, ?_⟩
          · show _ = _; have h1 := hk.out; have h2 := HK.out; have h3 := hV'.out; rw [List.length_append] at h1 ⊢; omega
          · show _ = _; have h1 := hn'.out; have h3 := hV'.out; rw [List.length_append]; omega
          · show _ = _; rw [← he.out, td_app]; simp
          · show SW _ _ _ _ _ _; simpa using S3
        case measure => simp [intOf]; omega
      · have hgtz : ¬ (j : Int) < (i : Int) := by omega
        have wd : IntKind.i64.wrap ((j : Int) - (i : Int)) = ((j - i : Nat) : Int) := by rw [IntWalk.i64_in _ (by omega)]; omega
        obtain ⟨q, hq⟩ : ∃ q, Hid (m + j - i = q) := ⟨_, rfl⟩
        have wq1 : IntKind.i64.wrap ((m : Int) + (j : Int)) = (m : Int) + (j : Int) := by rw [IntWalk.i64_in _ (by have := HBK.out; omega)]
        have wq : IntKind.i64.wrap ((m : Int) + (j : Int) - (i : Int)) = (q : Int) := by have := hq.out; rw [IntWalk.i64_in _ (by have := HBK.out; omega)]; omega
        have SS : Hid (SW (eI v) w0 blk off ((P ++ X) ++ (U' ++ (V'.take (j - i) ++ (V'.drop (j - i) ++ (Y ++ Z))))).toArray wr) := by
          show SW _ _ _ _ _ _
          rw [td_app]
          simpa using S1.out
        have tl : (V'.take (j - i)).length = j - i := by rw [List.length_take, hV'.out]; omega
        have dl : (V'.drop (j - i)).length = i := by rw [List.length_drop, hV'.out]; omega
        have CC := hide (swapRange_m v fv blk off cap d0 w0 wr RR.out (P ++ X) U' (V'.take (j - i)) (V'.drop (j - i)) (Y ++ Z) i k q hU'.out dl hk.out (by have h1 := hk.out; have h2 := HK.out; have h3 := hq.out; rw [h1, tl]; omega) (by have := HBK.out; have h3 := hq.out; rw [List.length_append]; omega) SS.out hsz)
        have TL := hide tl
        have DL := hide dl
        clear SS S1 tl dl
        go_wp2_with (go_at_call 136; refine CC.out.mono ?_; rintro e w' ⟨rfl, S3⟩)
        go_roundw
        case rel =>
          refine ⟨X, V'.drop (j - i), V'.take (j - i), U' ++ Y, i, j - i, rfl, rfl, hi, by omega, DL, TL, hm', ?_, ?_, ?_⟩
          · show _ = _; have h1 := hn'.out; have h3 := hU'.out; rw [List.length_append]; omega
          · show _ = _; rw [← he.out, ← td_app (j - i) V' (U' ++ Y)]
          · show SW _ _ _ _ _ _; simpa using S3
        case measure => simp [intOf]; omega
end Go.Proofs.YtegoapdbpfhkiaaGreat

/- The library's merge in place where one part is a single element. -/
namespace Go.Proofs.YtegoapdbpfhkiaaGreat
open Go.RowKit Go.Sort
set_option linter.unusedVariables false

theorem la_app {α : Type} [Inhabited α] {P Q : List α} {i q : Nat} (h : P.length + q = i) : (P ++ Q).toArray[i]! = Q.getD q default := by subst h; rw [la_get, sm_getr]
theorem la_appl {α : Type} [Inhabited α] {P Q Z : List α} {i q : Nat} (h : P.length + q = i) (hq : q < Q.length) : (P ++ (Q ++ Z)).toArray[i]! = Q.getD q default := by rw [la_app h, sm_getl hq]

set_option maxHeartbeats 4000000 in
set_option maxRecDepth 1000000 in
theorem symMerge_one {α : Type} [Inhabited α] {T : α → α → Prop} (tr : ∀ x y z, T x y → T y z → T x z) (v : α → Int) (cf : α → α → Int) (g : Nat) (cb : Array Value) (blk off cap : Nat) (d0 : Array α) (w0 w : World) (R : Row1 (eI v) w0 blk off d0)
    (eg : ∀ args w, (callFunc g args).run Tryz.prog w = .ok (.enter g args) w) (hcmp : CmpLays1 Tryz.prog g cb (eI v) cf blk off d0.size w0) (hsz : d0.size < 4611686018427387904) (P U Z : List α) (x : α) (a m b : Nat)
    (ha : P.length = a) (hm : a + 1 = m) (hb : m + U.length = b) (hs : b + Z.length = d0.size) (sU : U.Pairwise T) (hc : CmpOf T (ltOf cf) [x] U) (S : SW (eI v) w0 blk off (P ++ ([x] ++ (U ++ Z))).toArray w) :
    Calls Tryz.prog 91 #[.slice (some ⟨blk, off, none⟩) d0.size cap, .int .i64 a, .int .i64 m, .int .i64 b, .func (.func g) #[] cb] w fun e w' => e = .returned (.tuple #[]) ∧ ∃ M, M.Perm ([x] ++ U) ∧ M.Pairwise T ∧ SW (eI v) w0 blk off (P ++ (M ++ Z)).toArray w' := by
  have FIN : Hid (∀ q, q ≤ U.length → (q = 0 ∨ ltOf cf (U.getD (q - 1) default) x = true) → (q = U.length ∨ ltOf cf (U.getD q default) x = false) → (U.take q ++ x :: U.drop q).Pairwise T ∧ (U.take q ++ x :: U.drop q).Perm (x :: U)) := fun q h1 h2 h3 => sm_one tr sU hc h1 h2 h3
  obtain ⟨l, hl⟩ : ∃ l, Hid (U.length = l) := ⟨_, rfl⟩
  have e0 : P ++ ([x] ++ (U ++ Z)) = bub P x U Z 0 := by simp [bub]
  rw [e0] at S
  have DX : Hid ((bub P x U Z 0).toArray[a]! = x) := by
    show _ = _
    rw [← e0, la_app (q := 0) (by omega)]
    rfl
  have DU : Hid (∀ q, q < l → (bub P x U Z 0).toArray[m + q]! = U.getD q default) := fun q hq => by
    rw [← e0, ← List.append_assoc, la_appl (q := q) (by rw [List.length_append, List.length_singleton]; omega) (by have := hl.out; omega)]
  have LEN : Hid (∀ t, (bub P x U Z t).toArray.size = d0.size) := fun t => by rw [List.size_toArray, bub_len]; omega
  have STP : Hid (∀ t, t < l → swp (bub P x U Z t).toArray (a + t) (a + t + 1) = (bub P x U Z (t + 1)).toArray) := fun t ht => bub_up (by have := hl.out; omega) (by omega) rfl
  have END : Hid (∀ t, bub P x U Z t = P ++ ((U.take t ++ x :: U.drop t) ++ Z)) := fun t => bub_mid P x U Z t
  rw [hl.out] at hb
  generalize bub P x U Z = f at *
  have HC : Hid _ := hcmp
  have RR := hide R
  have S0 := hide S
  have wma : IntKind.i64.wrap ((m : Int) - (a : Int)) = 1 := by rw [IntWalk.i64_in _ (by omega)]; omega
  have mixed : Tryz.prog.follows .mixedOrders = true := by kernel_rfl
  have HCO := hide hc
  have TR := hide tr
  have SU := hide sU
  clear hcmp R S hc tr sU e0
  go_enter Tryz.func91, Tryz.ntmps91
  go_wp2
  go_loopw [10, 11] (fun s10 s11 wr => ∃ i j : Nat, s10 = .int .i64 i ∧ s11 = .int .i64 j ∧ m ≤ i ∧ i ≤ j ∧ j ≤ b ∧ Hid (i - m = 0 ∨ ltOf cf (U.getD (i - m - 1) default) x = true) ∧ Hid (j = b ∨ ltOf cf (U.getD (j - m) default) x = false) ∧ Hid (SW (eI v) w0 blk off (f 0).toArray wr)) (fun s10 s11 _ => (intOf s11).toNat - (intOf s10).toNat)
  case atStart => exact ⟨m, b, rfl, rfl, Nat.le_refl _, by omega, Nat.le_refl _, .inl (by omega), .inl rfl, S0⟩
  case round =>
    obtain ⟨i, j, rfl, rfl, hmi, hij, hjb, Hi, Hj, S1⟩ := hrel
    by_cases hlt : i < j
    · have hltz : (i : Int) < (j : Int) := by omega
      obtain ⟨h, hh⟩ : ∃ h, Hid ((i + j) / 2 = h) := ⟨_, rfl⟩
      have h1 : i ≤ h := by have := hh.out; omega
      have h2 : h < j := by have := hh.out; omega
      have eh : ((i : Int) + (j : Int)) / 2 = (h : Int) := by have := hh.out; omega
      have l1 := LEN.out 0
      have c1 := sw_atl S1.out RR.out l1 (i := h) rfl (by rw [l1]; omega)
      have c2 := sw_atl S1.out RR.out l1 (i := a) rfl (by rw [l1]; omega)
      have du := DU.out (h - m) (by omega)
      rw [show m + (h - m) = h by omega] at du
      rw [du] at c1
      rw [DX.out] at c2
      have CQ := S1.out.cmp HC.out l1 (U.getD (h - m) default) x
      obtain ⟨c, hcv⟩ : ∃ c, Hid (cf (U.getD (h - m) default) x = c) := ⟨_, rfl⟩
      rw [hcv.out] at CQ
      have LT : Hid (ltOf cf (U.getD (h - m) default) x = decide (c < 0)) := by show _ = _; unfold ltOf; rw [hcv.out]
      have i1 : (h : Int) < (d0.size : Int) := by omega
      have i2 : (a : Int) < (d0.size : Int) := by omega
      have NI : Hid (c < 0 → (h + 1 - m = 0 ∨ ltOf cf (U.getD (h + 1 - m - 1) default) x = true)) := fun hn => .inr (by rw [show h + 1 - m - 1 = h - m by omega, LT.out, decide_eq_true hn])
      have NJ : Hid (¬ c < 0 → (h = b ∨ ltOf cf (U.getD (h - m) default) x = false)) := fun hn => .inr (by rw [LT.out, decide_eq_false hn])
      clear du hcv hh l1 LT
      generalize U.getD (h - m) default = y at CQ c1
      go_wp2_with fail
      go_quiet_grown (first | (go_at_fn g; refine Calls.grown_of (CQ _ _)))
      have S2 : Hid (SW (eI v) w0 blk off (f 0).toArray (grow (wr.drewN nq) osq)) := S1.out.grown nq osq
      clear c1 c2 CQ S1
      generalize grow (wr.drewN nq) osq = w2 at *
      by_cases hn : c < 0
      · go_wp2
        go_roundw
        case rel => exact ⟨h + 1, j, by go_num, rfl, by omega, by omega, hjb, NI.out hn, Hj, S2⟩
        case measure => simp [intOf]; omega
      · go_wp2
        go_roundw
        case rel => exact ⟨i, h, rfl, rfl, hmi, h1, by omega, Hi, NJ.out (by omega), S2⟩
        case measure => simp [intOf]; omega
    · have e : i = j := by omega
      subst e
      have w1 : IntKind.i64.wrap ((i : Int) - 1) = ((i - 1 : Nat) : Int) := by rw [IntWalk.i64_in _ (by omega)]; omega
      go_wp2
      go_loopw [13] (fun s13 wr => ∃ t : Nat, s13 = .int .i64 (a + t : Nat) ∧ t ≤ i - m ∧ Hid (SW (eI v) w0 blk off (f t).toArray wr)) (fun s13 _ => i - (intOf s13).toNat)
      case atStart => exact ⟨0, rfl, Nat.zero_le _, S1⟩
      case round =>
        obtain ⟨t, rfl, ht, S5⟩ := hrel
        obtain ⟨k, hk⟩ : ∃ k, Hid (a + t = k) := ⟨_, rfl⟩
        obtain ⟨k1, hk1⟩ : ∃ k1, Hid (a + t + 1 = k1) := ⟨_, rfl⟩
        by_cases hlt : t < i - m
        · have l1 := LEN.out t
          have c1 := sw_at1 S5.out RR.out l1 hk.out (by rw [l1]; omega)
          have c2 := sw_at1 S5.out RR.out l1 hk1.out (by rw [l1]; omega)
          have f1 := sw_fr1 S5.out RR.out l1 hk.out (by rw [l1]; omega)
          have f2 := sw_fr1 S5.out RR.out l1 hk1.out (by rw [l1]; omega)
          have S2 := hide (sw_ex1 S5.out RR.out hk.out hk1.out (by rw [l1]; omega) (by rw [l1]; omega) (STP.out t (by omega)))
          obtain ⟨u, c3⟩ := S5.out.c2 RR.out l1 (a + t) (a + t + 1) (by rw [l1]; omega) (by rw [l1]; omega) (.int .i64 (v (f t).toArray[a + t + 1]!))
          have k2 : k < i - 1 := by have := hk.out; omega
          have k3 : k + 1 = k1 := by have := hk.out; have := hk1.out; omega
          have i1 : (k : Int) < (d0.size : Int) := by omega
          have i2 : (k1 : Int) < (d0.size : Int) := by omega
          have kz : (k : Int) < ((i - 1 : Nat) : Int) := by omega
          have wk : IntKind.i64.wrap ((k : Int) + 1) = (k1 : Int) := by rw [IntWalk.i64_in _ (by omega)]; omega
          rw [hk1.out, hk.out] at c3
          rw [hk.out] at c1
          rw [hk1.out] at c2
          rw [hk1.out, hk.out] at S2
          rw [hk.out]
          generalize v (f t).toArray[k]! = p at *
          generalize v (f t).toArray[k1]! = q at *
          have K1 := hide k3
          clear k3 k2 l1 S5
          go_wp2_with fail
          go_big_region_o
          clear c1 c2 c3 f1 f2
          generalize ((wr.setCell ⟨blk, off + k, none⟩ (.int .i64 q)).setCell ⟨blk, off + k1, none⟩ (.int .i64 p)).drew = w3 at *
          go_wp2
          go_roundw
          case rel => exact ⟨t + 1, by rw [show a + (t + 1) = k1 by have := hk1.out; omega], by omega, S2⟩
          case measure => have h1 := K1.out; have h2 := hk.out; simp [intOf] <;> omega
        · have kz : ¬ (k : Int) < ((i - 1 : Nat) : Int) := by have := hk.out; omega
          have e : t = i - m := by omega
          rw [hk.out]
          go_wp2
          refine bodyPost_ret (results_none rfl _ _ _) rfl ?_
          obtain ⟨s1, p1⟩ := FIN.out (i - m) (by have := hl.out; omega) Hi.out (by have := hl.out; rcases Hj.out with h | h; exact .inl (by omega); exact .inr h)
          refine ⟨rfl, _, p1, s1, ?_⟩
          rw [← END.out, ← e]
          exact S5.out

set_option maxHeartbeats 4000000 in
set_option maxRecDepth 1000000 in
theorem symMerge_last {α : Type} [Inhabited α] {T : α → α → Prop} (tr : ∀ x y z, T x y → T y z → T x z) (v : α → Int) (cf : α → α → Int) (g : Nat) (cb : Array Value) (blk off cap : Nat) (d0 : Array α) (w0 w : World) (R : Row1 (eI v) w0 blk off d0)
    (eg : ∀ args w, (callFunc g args).run Tryz.prog w = .ok (.enter g args) w) (hcmp : CmpLays1 Tryz.prog g cb (eI v) cf blk off d0.size w0) (hsz : d0.size < 4611686018427387904) (P U Z : List α) (y : α) (a m b : Nat)
    (h2 : 2 ≤ U.length) (ha : P.length = a) (hm : a + U.length = m) (hb : m + 1 = b) (hs : b + Z.length = d0.size) (sU : U.Pairwise T) (hc : CmpOf T (ltOf cf) U [y]) (S : SW (eI v) w0 blk off (P ++ (U ++ ([y] ++ Z))).toArray w) :
    Calls Tryz.prog 91 #[.slice (some ⟨blk, off, none⟩) d0.size cap, .int .i64 a, .int .i64 m, .int .i64 b, .func (.func g) #[] cb] w fun e w' => e = .returned (.tuple #[]) ∧ ∃ M, M.Perm (U ++ [y]) ∧ M.Pairwise T ∧ SW (eI v) w0 blk off (P ++ (M ++ Z)).toArray w' := by
  have FIN : Hid (∀ q, q ≤ U.length → (q = 0 ∨ ltOf cf y (U.getD (q - 1) default) = false) → (q = U.length ∨ ltOf cf y (U.getD q default) = true) → (U.take q ++ y :: U.drop q).Pairwise T ∧ (U.take q ++ y :: U.drop q).Perm (U ++ [y])) := fun q h1 h2 h3 => sm_last tr sU hc h1 h2 h3
  obtain ⟨l, hl⟩ : ∃ l, Hid (U.length = l) := ⟨_, rfl⟩
  have e0 : P ++ (U ++ ([y] ++ Z)) = bub P y U Z U.length := by rw [bub_end, List.append_assoc]
  rw [e0] at S
  have DX : Hid ((bub P y U Z U.length).toArray[m]! = y) := by
    show _ = _
    rw [← e0, ← List.append_assoc, la_app (q := 0) (by rw [List.length_append]; omega)]
    rfl
  have DU : Hid (∀ q, q < l → (bub P y U Z U.length).toArray[a + q]! = U.getD q default) := fun q hq => by
    rw [← e0, la_appl (q := q) (by omega) (by have := hl.out; omega)]
  have LEN : Hid (∀ t, (bub P y U Z t).toArray.size = d0.size) := fun t => by rw [List.size_toArray, bub_len]; omega
  have STP : Hid (∀ t, t < l → swp (bub P y U Z (t + 1)).toArray (a + t + 1) (a + t) = (bub P y U Z t).toArray) := fun t ht => bub_down (by have := hl.out; omega) (by omega) rfl
  have END : Hid (∀ t, bub P y U Z t = P ++ ((U.take t ++ y :: U.drop t) ++ Z)) := fun t => bub_mid P y U Z t
  rw [hl.out] at hm h2 S DX DU
  generalize bub P y U Z = f at *
  have HC : Hid _ := hcmp
  have RR := hide R
  have S0 := hide S
  have wma : IntKind.i64.wrap ((m : Int) - (a : Int)) = (l : Int) := by rw [IntWalk.i64_in _ (by omega)]; omega
  have wl : ¬ (l : Int) = 1 := by omega
  have wl2 : ((l : Int) == 1) = false := by simp; omega
  have wbm : IntKind.i64.wrap ((b : Int) - (m : Int)) = 1 := by rw [IntWalk.i64_in _ (by omega)]; omega
  have mixed : Tryz.prog.follows .mixedOrders = true := by kernel_rfl
  have HCO := hide hc
  have TR := hide tr
  have SU := hide sU
  clear hcmp R S hc tr sU e0
  go_enter Tryz.func91, Tryz.ntmps91
  go_wp2
  go_loopw [14, 15] (fun s10 s11 wr => ∃ i j : Nat, s10 = .int .i64 i ∧ s11 = .int .i64 j ∧ a ≤ i ∧ i ≤ j ∧ j ≤ m ∧ Hid (i - a = 0 ∨ ltOf cf y (U.getD (i - a - 1) default) = false) ∧ Hid (j = m ∨ ltOf cf y (U.getD (j - a) default) = true) ∧ Hid (SW (eI v) w0 blk off (f l).toArray wr)) (fun s10 s11 _ => (intOf s11).toNat - (intOf s10).toNat)
  case atStart => exact ⟨a, m, rfl, rfl, Nat.le_refl _, by omega, Nat.le_refl _, .inl (by omega), .inl rfl, S0⟩
  case round =>
    obtain ⟨i, j, rfl, rfl, hmi, hij, hjb, Hi, Hj, S1⟩ := hrel
    by_cases hlt : i < j
    · have hltz : (i : Int) < (j : Int) := by omega
      obtain ⟨h, hh⟩ : ∃ h, Hid ((i + j) / 2 = h) := ⟨_, rfl⟩
      have h1 : i ≤ h := by have := hh.out; omega
      have h2 : h < j := by have := hh.out; omega
      have eh : ((i : Int) + (j : Int)) / 2 = (h : Int) := by have := hh.out; omega
      have l1 := LEN.out l
      have c1 := sw_atl S1.out RR.out l1 (i := h) rfl (by rw [l1]; omega)
      have c2 := sw_atl S1.out RR.out l1 (i := m) rfl (by rw [l1]; omega)
      have du := DU.out (h - a) (by omega)
      rw [show a + (h - a) = h by omega] at du
      rw [du] at c1
      rw [DX.out] at c2
      have CQ := S1.out.cmp HC.out l1 y (U.getD (h - a) default)
      obtain ⟨c, hcv⟩ : ∃ c, Hid (cf y (U.getD (h - a) default) = c) := ⟨_, rfl⟩
      rw [hcv.out] at CQ
      have LT : Hid (ltOf cf y (U.getD (h - a) default) = decide (c < 0)) := by show _ = _; unfold ltOf; rw [hcv.out]
      have i1 : (h : Int) < (d0.size : Int) := by omega
      have i2 : (m : Int) < (d0.size : Int) := by omega
      have NJ : Hid (¬ c < 0 → (h + 1 - a = 0 ∨ ltOf cf y (U.getD (h + 1 - a - 1) default) = false)) := fun hn => .inr (by rw [show h + 1 - a - 1 = h - a by omega, LT.out, decide_eq_false hn])
      have NI : Hid (c < 0 → (h = m ∨ ltOf cf y (U.getD (h - a) default) = true)) := fun hn => .inr (by rw [LT.out, decide_eq_true hn])
      clear du hcv hh l1 LT
      generalize U.getD (h - a) default = x at CQ c1
      by_cases hn : c < 0
      · have hd : decide (c < 0) = true := decide_eq_true hn
        go_wp2_with fail
        go_quiet_grown (first | (go_at_fn g; refine Calls.grown_of (CQ _ _)))
        have S2 : Hid (SW (eI v) w0 blk off (f l).toArray (grow (wr.drewN nq) osq)) := S1.out.grown nq osq
        clear c1 c2 CQ S1
        generalize grow (wr.drewN nq) osq = w2 at *
        go_wp2
        go_roundw
        case rel => exact ⟨i, h, rfl, rfl, hmi, h1, by omega, Hi, NI.out hn, S2⟩
        case measure => simp [intOf]; omega
      · have hd : decide (c < 0) = false := decide_eq_false hn
        go_wp2_with fail
        go_quiet_grown (first | (go_at_fn g; refine Calls.grown_of (CQ _ _)))
        have S2 : Hid (SW (eI v) w0 blk off (f l).toArray (grow (wr.drewN nq) osq)) := S1.out.grown nq osq
        clear c1 c2 CQ S1
        generalize grow (wr.drewN nq) osq = w2 at *
        go_wp2
        go_roundw
        case rel => exact ⟨h + 1, j, by go_num, rfl, by omega, by omega, hjb, NJ.out hn, Hj, S2⟩
        case measure => simp [intOf]; omega
    · have e : i = j := by omega
      subst e
      go_wp2
      go_loopw [17] (fun s13 wr => ∃ t : Nat, s13 = .int .i64 (a + t : Nat) ∧ i - a ≤ t ∧ t ≤ l ∧ Hid (SW (eI v) w0 blk off (f t).toArray wr)) (fun s13 _ => (intOf s13).toNat)
      case atStart => exact ⟨l, by rw [hm], by omega, Nat.le_refl _, S1⟩
      case round =>
        obtain ⟨t, rfl, ht, htl, S5⟩ := hrel
        by_cases hlt : i - a < t
        · obtain ⟨t, rfl⟩ : ∃ t', t = t' + 1 := ⟨t - 1, by omega⟩
          obtain ⟨k, hk⟩ : ∃ k, Hid (a + t = k) := ⟨_, rfl⟩
          obtain ⟨k1, hk1⟩ : ∃ k1, Hid (a + t + 1 = k1) := ⟨_, rfl⟩
          have l1 := LEN.out (t + 1)
          have c1 := sw_at1 S5.out RR.out l1 hk.out (by rw [l1]; omega)
          have c2 := sw_at1 S5.out RR.out l1 hk1.out (by rw [l1]; omega)
          have f1 := sw_fr1 S5.out RR.out l1 hk.out (by rw [l1]; omega)
          have f2 := sw_fr1 S5.out RR.out l1 hk1.out (by rw [l1]; omega)
          have S2 := hide (sw_ex1 S5.out RR.out hk1.out hk.out (by rw [l1]; omega) (by rw [l1]; omega) (STP.out t (by omega)))
          obtain ⟨u, c3⟩ := S5.out.c2 RR.out l1 (a + t + 1) (a + t) (by rw [l1]; omega) (by rw [l1]; omega) (.int .i64 (v (f (t + 1)).toArray[a + t]!))
          have k2 : i < k1 := by have := hk1.out; omega
          have k3 : k + 1 = k1 := by have := hk.out; have := hk1.out; omega
          have i1 : (k : Int) < (d0.size : Int) := by have := hk.out; omega
          have i2 : (k1 : Int) < (d0.size : Int) := by have := hk1.out; omega
          have kz : (i : Int) < (k1 : Int) := by omega
          have wk : IntKind.i64.wrap ((k1 : Int) - 1) = (k : Int) := by rw [IntWalk.i64_in _ (by omega)]; omega
          rw [hk1.out, hk.out] at c3
          rw [hk.out] at c1
          rw [hk1.out] at c2
          rw [hk1.out, hk.out] at S2
          rw [show a + (t + 1) = k1 from hk1.out]
          generalize v (f (t + 1)).toArray[k]! = p at *
          generalize v (f (t + 1)).toArray[k1]! = q at *
          have K1 := hide k3
          clear k3 k2 l1 S5
          go_wp2_with fail
          go_big_region_o
          clear c1 c2 c3 f1 f2
          generalize ((wr.setCell ⟨blk, off + k1, none⟩ (.int .i64 p)).setCell ⟨blk, off + k, none⟩ (.int .i64 q)).drew = w3 at *
          go_wp2
          go_roundw
          case rel => exact ⟨t, by rw [hk.out], by omega, by omega, S2⟩
          case measure => have h1 := K1.out; have h2 := hk.out; simp [intOf] <;> omega
        · have e : t = i - a := by omega
          obtain ⟨k, hk⟩ : ∃ k, Hid (a + t = k) := ⟨_, rfl⟩
          have kz : ¬ (i : Int) < (k : Int) := by have := hk.out; omega
          rw [hk.out]
          go_wp2
          refine bodyPost_ret (results_none rfl _ _ _) rfl ?_
          obtain ⟨s1, p1⟩ := FIN.out (i - a) (by have := hl.out; omega) Hi.out (by have := hl.out; rcases Hj.out with h | h; exact .inl (by omega); exact .inr h)
          refine ⟨rfl, _, p1, s1, ?_⟩
          rw [← END.out, ← e]
          exact S5.out
end Go.Proofs.YtegoapdbpfhkiaaGreat

/- The library's merge in place, whole. -/
namespace Go.Proofs.YtegoapdbpfhkiaaGreat
open Go.RowKit Go.Sort
set_option linter.unusedVariables false

set_option maxHeartbeats 8000000 in
set_option maxRecDepth 1000000 in
theorem symMerge_m {α : Type} [Inhabited α] {T : α → α → Prop} (tr : ∀ x y z, T x y → T y z → T x z) (v : α → Int) (cf : α → α → Int) (g : Nat) (cb : Array Value) (blk off cap : Nat) (d0 : Array α) (w0 : World) (R : Row1 (eI v) w0 blk off d0)
    (eg : ∀ args w, (callFunc g args).run Tryz.prog w = .ok (.enter g args) w) (hcmp : CmpLays1 Tryz.prog g cb (eI v) cf blk off d0.size w0) (hsz : d0.size < 4611686018427387904) :
    ∀ (N : Nat) (P L U Z : List α) (w : World) (a m b : Nat), L.length + U.length ≤ N → 0 < L.length → 0 < U.length → P.length = a → a + L.length = m → m + U.length = b → b + Z.length = d0.size → L.Pairwise T → U.Pairwise T → CmpOf T (ltOf cf) L U →
      SW (eI v) w0 blk off (P ++ (L ++ (U ++ Z))).toArray w →
    Calls Tryz.prog 91 #[.slice (some ⟨blk, off, none⟩) d0.size cap, .int .i64 a, .int .i64 m, .int .i64 b, .func (.func g) #[] cb] w fun e w' => e = .returned (.tuple #[]) ∧ ∃ M, M.Perm (L ++ U) ∧ M.Pairwise T ∧ SW (eI v) w0 blk off (P ++ (M ++ Z)).toArray w' := by
  intro N
  induction N with
  | zero => intro P L U Z w a m b hN hL; omega
  | succ N ih =>
    intro P L U Z w a m b hN hL hU ha hm hb hs sL sU hc S
    by_cases h1 : L.length = 1
    · obtain ⟨x, rfl⟩ := List.length_eq_one_iff.1 h1
      exact symMerge_one tr v cf g cb blk off cap d0 w0 w R eg hcmp hsz P U Z x a m b ha (by simpa using hm) hb hs sU hc S
    by_cases h2 : U.length = 1
    · obtain ⟨y, rfl⟩ := List.length_eq_one_iff.1 h2
      exact symMerge_last tr v cf g cb blk off cap d0 w0 w R eg hcmp hsz P L Z y a m b (by omega) ha hm (by simpa using hb) hs sL hc S
    have IH := hide ih
    clear ih
    have SPL : Hid (∀ s n, n = (a + b) / 2 + m → a ≤ s → s ≤ m → m + s ≤ n → n ≤ b + s → (s = a ∨ n = b + s ∨ ltOf cf ((P ++ (L ++ (U ++ Z))).getD (n - s) default) ((P ++ (L ++ (U ++ Z))).getD (s - 1) default) = false) →
        (s = m ∨ n = m + s ∨ ltOf cf ((P ++ (L ++ (U ++ Z))).getD (n - 1 - s) default) ((P ++ (L ++ (U ++ Z))).getD s default) = true) →
        ∃ L1 L2 R1 R2, L = L1 ++ L2 ∧ U = R1 ++ R2 ∧ L1.length = s - a ∧ R1.length = n - s - m ∧ ∀ x ∈ L1 ++ R1, ∀ y ∈ L2 ++ R2, T x y) := by
      intro s n hn q1 q2 q3 q4 q5 q6
      have := sm_split (P := P) (S := Z) (s := s) (n := n) tr sL sU hc (by rw [hn, ha, hm, hb]) (by omega) (by omega) (by omega) (by omega) (by rw [ha, hm, hb]; exact q5) (by rw [ha, hm]; exact q6)
      rw [ha, hm] at this
      exact this
    have LEN : Hid ((P ++ (L ++ (U ++ Z))).toArray.size = d0.size) := by show _ = _; rw [List.size_toArray]; simp only [List.length_append]; omega
    have GET : Hid (∀ q, (P ++ (L ++ (U ++ Z))).toArray[q]! = (P ++ (L ++ (U ++ Z))).getD q default) := fun q => la_get _ _
    obtain ⟨D, hD⟩ : ∃ D, Hid (P ++ (L ++ (U ++ Z)) = D) := ⟨_, rfl⟩
    rw [hD.out] at S SPL LEN GET
    obtain ⟨l, hl⟩ : ∃ l, Hid (L.length = l) := ⟨_, rfl⟩
    obtain ⟨u, hu⟩ : ∃ u, Hid (U.length = u) := ⟨_, rfl⟩
    rw [hl.out] at hm hN hL h1
    rw [hu.out] at hb hN hU h2
    have HC : Hid _ := hcmp
    have RR := hide R
    have S0 := hide S
    have HA := hide ha
    have HS := hide hs
    have HCO := hide hc
    have TR := hide tr
    have SL' := hide sL
    have SU' := hide sU
    clear hcmp R S hc tr sU sL ha
    have wma : IntKind.i64.wrap ((m : Int) - (a : Int)) = (l : Int) := by rw [IntWalk.i64_in _ (by omega)]; omega
    have wl : ¬ (l : Int) = 1 := by omega
    have wl2 : ((l : Int) == 1) = false := by simp; omega
    have wbm : IntKind.i64.wrap ((b : Int) - (m : Int)) = (u : Int) := by rw [IntWalk.i64_in _ (by omega)]; omega
    have wu : ¬ (u : Int) = 1 := by omega
    have wu2 : ((u : Int) == 1) = false := by simp; omega
    obtain ⟨mid, hmid⟩ : ∃ mid, Hid ((a + b) / 2 = mid) := ⟨_, rfl⟩
    have emid : ((a : Int) + (b : Int)) / 2 = (mid : Int) := by have := hmid.out; omega
    obtain ⟨n, hn⟩ : ∃ n, Hid (mid + m = n) := ⟨_, rfl⟩
    have en : IntKind.i64.wrap ((mid : Int) + (m : Int)) = (n : Int) := by have := hn.out; have := hmid.out; rw [IntWalk.i64_in _ (by omega)]; omega
    have en1 : IntKind.i64.wrap ((n : Int) - 1) = ((n - 1 : Nat) : Int) := by have := hn.out; have := hmid.out; rw [IntWalk.i64_in _ (by omega)]; omega
    have mixed : Tryz.prog.follows .mixedOrders = true := by kernel_rfl
    have b1 : a < mid := by have := hmid.out; omega
    have b2 : mid < b := by have := hmid.out; omega
    have ab : a < m := by omega
    have mb : m < b := by omega
    have bd : b ≤ d0.size := by omega
    go_enter Tryz.func91, Tryz.ntmps91
    go_upto_if 140 with fail
    go_cut [20, 21] (fun s20 s21 wx => ∃ s r : Nat, s20 = .int .i64 s ∧ s21 = .int .i64 r ∧ wx = w ∧ a ≤ s ∧ s ≤ r ∧ r ≤ m ∧ Hid (m + r ≤ n ∧ n ≤ b + s ∧ (s = a ∨ n = b + s) ∧ (r = m ∨ n = m + r)))
    case first =>
      as_aux_lemma =>
        by_cases hmm : mid < m
        · have hmz : (mid : Int) < (m : Int) := by omega
          have wnb : IntKind.i64.wrap ((n : Int) - (b : Int)) = ((n - b : Nat) : Int) := by have := hn.out; have := hmid.out; rw [IntWalk.i64_in _ (by omega)]; omega
          go_wp2
          go_meet
          exact ⟨n - b, mid, rfl, rfl, rfl, by have := hn.out; have := hmid.out; omega, by have := hn.out; have := hmid.out; omega, by omega, by have := hn.out; have := hmid.out; omega, by have := hn.out; have := hmid.out; omega, by have := hn.out; have := hmid.out; omega, by have := hn.out; have := hmid.out; omega⟩
        · have hmz : ¬ (mid : Int) < (m : Int) := by omega
          go_wp2
          go_meet
          exact ⟨a, m, rfl, rfl, rfl, Nat.le_refl _, by omega, Nat.le_refl _, by have := hn.out; have := hmid.out; omega, by have := hn.out; have := hmid.out; omega, by omega, by omega⟩
    case rest =>
      as_aux_lemma =>
        obtain ⟨s0, r0, rfl, rfl, rfl, has, hsr, hrm, HH⟩ := hcut
        go_wp2_with fail
        go_loopw [20, 21] (fun s20 s21 wr => ∃ s r : Nat, s20 = .int .i64 s ∧ s21 = .int .i64 r ∧ a ≤ s ∧ s ≤ r ∧ r ≤ m ∧ Hid (m + r ≤ n ∧ n ≤ b + s) ∧ Hid (s = a ∨ n = b + s ∨ ltOf cf (D.getD (n - s) default) (D.getD (s - 1) default) = false) ∧ Hid (r = m ∨ n = m + r ∨ ltOf cf (D.getD (n - 1 - r) default) (D.getD r default) = true) ∧ Hid (SW (eI v) w0 blk off D.toArray wr)) (fun s20 s21 _ => (intOf s21).toNat - (intOf s20).toNat)
        case atStart =>
          obtain ⟨g1, g2, g3, g4⟩ := HH.out
          exact ⟨s0, r0, rfl, rfl, has, hsr, hrm, ⟨g1, g2⟩, by rcases g3 with h | h; exact .inl h; exact .inr (.inl h), by rcases g4 with h | h; exact .inl h; exact .inr (.inl h), S0⟩
        case round =>
          clear has hsr hrm HH
          obtain ⟨s, r, rfl, rfl, has, hsr, hrm, HB, LO, HI, S1⟩ := hrel
          by_cases hlt : s < r
          · as_aux_lemma =>
              have hltz : (s : Int) < (r : Int) := by omega
              obtain ⟨h, hh⟩ : ∃ h, Hid ((s + r) / 2 = h) := ⟨_, rfl⟩
              have k1 : s ≤ h := by have := hh.out; omega
              have k2 : h < r := by have := hh.out; omega
              have eh : ((s : Int) + (r : Int)) / 2 = (h : Int) := by have := hh.out; omega
              obtain ⟨q, hq⟩ : ∃ q, Hid (n - 1 - h = q) := ⟨_, rfl⟩
              have qb : q < b := by have := hq.out; have := HB.out; omega
              have eq : IntKind.i64.wrap (((n - 1 : Nat) : Int) - (h : Int)) = (q : Int) := by have := hq.out; have := HB.out; rw [IntWalk.i64_in _ (by omega)]; omega
              have c1 := sw_atl S1.out RR.out LEN.out (i := q) rfl (by rw [LEN.out]; omega)
              have c2 := sw_atl S1.out RR.out LEN.out (i := h) rfl (by rw [LEN.out]; omega)
              rw [GET.out] at c1 c2
              have CQ := S1.out.cmp HC.out LEN.out (D.getD q default) (D.getD h default)
              obtain ⟨c, hcv⟩ : ∃ c, Hid (cf (D.getD q default) (D.getD h default) = c) := ⟨_, rfl⟩
              rw [hcv.out] at CQ
              have LT : Hid (ltOf cf (D.getD q default) (D.getD h default) = decide (c < 0)) := by show _ = _; unfold ltOf; rw [hcv.out]
              have i1 : (h : Int) < (d0.size : Int) := by omega
              have i2 : (q : Int) < (d0.size : Int) := by omega
              have NJ : Hid (¬ c < 0 → (h + 1 = a ∨ n = b + (h + 1) ∨ ltOf cf (D.getD (n - (h + 1)) default) (D.getD (h + 1 - 1) default) = false)) := fun hn => .inr (.inr (by rw [show n - (h + 1) = q by have := hq.out; omega, show h + 1 - 1 = h by omega, LT.out, decide_eq_false hn]))
              have NI : Hid (c < 0 → (h = m ∨ n = m + h ∨ ltOf cf (D.getD (n - 1 - h) default) (D.getD h default) = true)) := fun hn => .inr (.inr (by rw [hq.out, LT.out, decide_eq_true hn]))
              clear hcv LT
              generalize D.getD q default = x at CQ c1
              generalize D.getD h default = y at CQ c2
              by_cases hn' : c < 0
              · have hd : decide (c < 0) = true := decide_eq_true hn'
                go_wp2_with fail
                go_quiet_grown (first | (go_at_fn g; refine Calls.grown_of (CQ _ _)))
                have S2 : Hid (SW (eI v) w0 blk off D.toArray (grow (wr.drewN nq) osq)) := S1.out.grown nq osq
                clear c1 c2 CQ S1
                generalize grow (wr.drewN nq) osq = w2 at *
                go_wp2
                go_roundw
                case rel => exact ⟨s, h, rfl, rfl, has, k1, by omega, ⟨by have := HB.out; omega, HB.out.2⟩, LO, NI.out hn', S2⟩
                case measure => simp [intOf]; omega
              · have hd : decide (c < 0) = false := decide_eq_false hn'
                go_wp2_with fail
                go_quiet_grown (first | (go_at_fn g; refine Calls.grown_of (CQ _ _)))
                have S2 : Hid (SW (eI v) w0 blk off D.toArray (grow (wr.drewN nq) osq)) := S1.out.grown nq osq
                clear c1 c2 CQ S1
                generalize grow (wr.drewN nq) osq = w2 at *
                go_wp2
                go_roundw
                case rel => exact ⟨h + 1, r, by go_num, rfl, by omega, by omega, hrm, ⟨HB.out.1, by have := HB.out; omega⟩, NJ.out hn', HI, S2⟩
                case measure => simp [intOf]; omega
          · have e : s = r := by omega
            subst e
            obtain ⟨L1, L2, R1, R2, eL, eR, l1, l2, hx⟩ := SPL.out s n (by rw [hmid.out, hn.out]) has hrm HB.out.1 HB.out.2 LO.out HI.out
            obtain ⟨f, hf⟩ : ∃ f, Hid (n - s = f) := ⟨_, rfl⟩
            have ef : IntKind.i64.wrap ((n : Int) - (s : Int)) = (f : Int) := by have := hf.out; have := HB.out; rw [IntWalk.i64_in _ (by omega)]; omega
            have fm : m ≤ f := by have := hf.out; have := HB.out; omega
            have fb : f ≤ b := by have := hf.out; have := HB.out; omega
            have L1l : Hid (L1.length = s - a) := l1
            have R1l : Hid (R1.length = f - m) := by show _ = _; rw [l2]; have := hf.out; omega
            have L2l : Hid (L2.length = m - s) := by show _ = _; have := congrArg List.length eL; rw [List.length_append, hl.out, l1] at this; omega
            have R2l : Hid (R2.length = b - f) := by show _ = _; have := congrArg List.length eR; rw [List.length_append, hu.out, l2] at this; have := hf.out; omega
            have fs : Hid (f + s = mid + m) := by show _ = _; have := hf.out; have := hn.out; have := HB.out; omega
            subst eL
            subst eR
            have SL2 := List.pairwise_append.1 SL'.out
            have SR2 := List.pairwise_append.1 SU'.out
            have HX := hide hx
            clear hx l1 l2
            have S2 : Hid (SW (eI v) w0 blk off (P ++ (L1 ++ (L2 ++ (R1 ++ (R2 ++ Z))))).toArray wr) := by
              show SW _ _ _ _ _ _
              have := S1.out
              rw [← hD.out] at this
              simpa using this
            obtain ⟨Q1, hQ1⟩ : ∃ Q1 : World → Prop, Hid (∀ wx, Q1 wx ↔ SW (eI v) w0 blk off (P ++ (L1 ++ (R1 ++ (L2 ++ (R2 ++ Z))))).toArray wx) := ⟨_, fun _ => Iff.rfl⟩
            obtain ⟨Q2, hQ2⟩ : ∃ Q2 : World → Prop, Hid (∀ wx, Q2 wx ↔ ∃ M1 : List α, M1.Perm (L1 ++ R1) ∧ M1.Pairwise T ∧ SW (eI v) w0 blk off (P ++ (M1 ++ (L2 ++ (R2 ++ Z)))).toArray wx) := ⟨_, fun _ => Iff.rfl⟩
            obtain ⟨B1, hB1⟩ : ∃ B1, Hid ((decide (s < m) && decide (m < f)) = B1) := ⟨_, rfl⟩
            obtain ⟨B2, hB2⟩ : ∃ B2, Hid ((decide (a < s) && decide (s < mid)) = B2) := ⟨_, rfl⟩
            obtain ⟨B3, hB3⟩ : ∃ B3, Hid ((decide (mid < f) && decide (f < b)) = B3) := ⟨_, rfl⟩
            go_upto_region 39 with fail
            go_cut [185] (fun sb wx => sb = .bool (decide (s < m) && decide (m < f)) ∧ wx = wr)
            case first =>
              as_aux_lemma =>
                by_cases c1 : s < m
                · have c1z : (s : Int) < (m : Int) := by omega
                  by_cases c2 : m < f
                  · have c2z : (m : Int) < (f : Int) := by omega
                    go_wp2
                    go_meet
                    exact ⟨by simp [c1, c2], rfl⟩
                  · have c2z : ¬ (m : Int) < (f : Int) := by omega
                    go_wp2
                    go_meet
                    exact ⟨by simp [c1, c2], rfl⟩
                · have c1z : ¬ (s : Int) < (m : Int) := by omega
                  go_wp2
                  go_meet
                  exact ⟨by simp [c1], rfl⟩
            case rest =>
              as_aux_lemma =>
                obtain ⟨rfl, hw⟩ := hcut
                rw [hw]
                clear hw
                rw [hB1.out]
                go_upto_if 185 with fail
                go_cut [] (fun wx => Q1 wx)
                case first =>
                  as_aux_lemma =>
                    cases B1 with
                    | true =>
                      have hb := hB1.out
                      simp only [Bool.and_eq_true, decide_eq_true_eq] at hb
                      have CC := hide (rotate_m v (.func (.func g) #[] cb) blk off cap d0 w0 wr RR.out (P ++ L1) L2 R1 (R2 ++ Z) s m f (by rw [List.length_append, L1l.out, HA.out]; omega) (by rw [L2l.out]; omega) (by rw [R1l.out]; omega) (by rw [List.length_append, R2l.out, ← HS.out]; omega) (by rw [L2l.out]; omega) (by rw [R1l.out]; omega) (by simpa using S2.out) hsz)
                      clear hb
                      go_wp2_with (go_at_call 117; refine CC.out.mono ?_; rintro e w' ⟨rfl, S3⟩)
                      go_meet
                      exact (hQ1.out _).2 (by simpa using S3)
                    | false =>
                      have SE : Hid (Q1 wr) := (hQ1.out _).2 (by
                        have hb := hB1.out
                        simp only [Bool.and_eq_false_iff, decide_eq_false_iff_not] at hb
                        rcases hb with hb | hb
                        · have e : L2 = [] := List.eq_nil_of_length_eq_zero (by rw [L2l.out]; omega)
                          rw [e] at S2 ⊢
                          exact S2.out
                        · have e : R1 = [] := List.eq_nil_of_length_eq_zero (by rw [R1l.out]; omega)
                          rw [e] at S2 ⊢
                          exact S2.out)
                      go_wp2
                      go_meet
                      exact SE.out
                case rest =>
                  as_aux_lemma =>
                    have S3 := hide ((hQ1.out _).1 hcut)
                    clear hcut S1 S2
                    rename World => wa
                    go_upto_region 41 with fail
                    go_cut [199] (fun sb wx => sb = .bool (decide (a < s) && decide (s < mid)) ∧ wx = wa)
                    case first =>
                      as_aux_lemma =>
                        by_cases c1 : a < s
                        · have c1z : (a : Int) < (s : Int) := by omega
                          by_cases c2 : s < mid
                          · have c2z : (s : Int) < (mid : Int) := by omega
                            go_wp2
                            go_meet
                            exact ⟨by simp [c1, c2], rfl⟩
                          · have c2z : ¬ (s : Int) < (mid : Int) := by omega
                            go_wp2
                            go_meet
                            exact ⟨by simp [c1, c2], rfl⟩
                        · have c1z : ¬ (a : Int) < (s : Int) := by omega
                          go_wp2
                          go_meet
                          exact ⟨by simp [c1], rfl⟩
                    case rest =>
                      as_aux_lemma =>
                        obtain ⟨rfl, hw⟩ := hcut
                        rw [hw]
                        clear hw
                        rw [hB2.out]
                        go_upto_if 199 with fail
                        go_cut [] (fun wx => Q2 wx)
                        case first =>
                          as_aux_lemma =>
                            cases B2 with
                            | true =>
                              have hb := hB2.out
                              simp only [Bool.and_eq_true, decide_eq_true_eq] at hb
                              have CC := hide (IH.out P L1 R1 (L2 ++ (R2 ++ Z)) _ a s mid (by rw [L1l.out, R1l.out]; have := fs.out; omega) (by rw [L1l.out]; omega) (by rw [R1l.out]; have := fs.out; omega) HA.out (by rw [L1l.out]; omega) (by rw [R1l.out]; have := fs.out; omega) (by rw [List.length_append, List.length_append, L2l.out, R2l.out, ← HS.out]; have := fs.out; omega) SL2.1 SR2.1 (HCO.out.sub (fun x hx => by simp [hx]) (fun x hx => by simp [hx])) S3.out)
                              clear hb
                              go_wp2_with (go_at_call 91; refine CC.out.mono ?_; rintro e w' ⟨rfl, M, h1, h2, S4⟩)
                              go_meet
                              exact (hQ2.out _).2 ⟨M, h1, h2, S4⟩
                            | false =>
                              have SE : Hid (Q2 wa) := (hQ2.out _).2 (by
                                have hb := hB2.out
                                simp only [Bool.and_eq_false_iff, decide_eq_false_iff_not] at hb
                                rcases hb with hb | hb
                                · have e : L1 = [] := List.eq_nil_of_length_eq_zero (by rw [L1l.out]; omega)
                                  rw [e] at S3 ⊢
                                  exact ⟨R1, by simp, SR2.1, S3.out⟩
                                · have e : R1 = [] := List.eq_nil_of_length_eq_zero (by rw [R1l.out]; have := fs.out; omega)
                                  rw [e] at S3 ⊢
                                  exact ⟨L1, by simp, SL2.1, S3.out⟩)
                              go_wp2
                              go_meet
                              exact SE.out
                        case rest =>
                          as_aux_lemma =>
                            obtain ⟨M1, p1, t1, S4'⟩ := (hQ2.out _).1 hcut
                            clear hcut
                            rename World => wb
                            have S4 := hide S4'
                            have ML : Hid (M1.length = mid - a) := by show _ = _; rw [p1.length_eq, List.length_append, L1l.out, R1l.out]; have := fs.out; omega
                            have FIN : Hid (∀ M2 wx, M2.Perm (L2 ++ R2) → M2.Pairwise T → SW (eI v) w0 blk off (P ++ (M1 ++ (M2 ++ Z))).toArray wx → ∃ M, M.Perm ((L1 ++ L2) ++ (R1 ++ R2)) ∧ M.Pairwise T ∧ SW (eI v) w0 blk off (P ++ (M ++ Z)).toArray wx) := fun M2 wx p2 t2 hw => by
                              obtain ⟨q1, q2⟩ := sm_join p1 t1 p2 t2 HX.out
                              exact ⟨M1 ++ M2, q2, q1, by simpa using hw⟩
                            clear S4' S3
                            go_upto_region 43 with fail
                            go_cut [213] (fun sb wx => sb = .bool (decide (mid < f) && decide (f < b)) ∧ wx = wb)
                            case first =>
                              as_aux_lemma =>
                                by_cases c1 : mid < f
                                · have c1z : (mid : Int) < (f : Int) := by omega
                                  by_cases c2 : f < b
                                  · have c2z : (f : Int) < (b : Int) := by omega
                                    go_wp2
                                    go_meet
                                    exact ⟨by simp [c1, c2], rfl⟩
                                  · have c2z : ¬ (f : Int) < (b : Int) := by omega
                                    go_wp2
                                    go_meet
                                    exact ⟨by simp [c1, c2], rfl⟩
                                · have c1z : ¬ (mid : Int) < (f : Int) := by omega
                                  go_wp2
                                  go_meet
                                  exact ⟨by simp [c1], rfl⟩
                            case rest =>
                              as_aux_lemma =>
                                obtain ⟨rfl, hw⟩ := hcut
                                rw [hw]
                                clear hw
                                rw [hB3.out]
                                cases B3 with
                                | true =>
                                  have hb := hB3.out
                                  simp only [Bool.and_eq_true, decide_eq_true_eq] at hb
                                  have CC := hide (IH.out (P ++ M1) L2 R2 Z _ mid f b (by rw [L2l.out, R2l.out]; have := fs.out; omega) (by rw [L2l.out]; have := fs.out; omega) (by rw [R2l.out]; omega) (by rw [List.length_append, ML.out, HA.out]; omega) (by rw [L2l.out]; have := fs.out; omega) (by rw [R2l.out]; omega) HS.out SL2.2.1 SR2.2.1 (HCO.out.sub (fun x hx => by simp [hx]) (fun x hx => by simp [hx])) (by simpa using S4.out))
                                  clear hb
                                  go_wp2_with (go_at_call 91; refine CC.out.mono ?_; rintro e w' ⟨rfl, M, h1, h2, S5⟩)
                                  go_end0
                                  exact ⟨rfl, FIN.out M _ h1 h2 (by simpa using S5)⟩
                                | false =>
                                  have SE : Hid (∃ M, M.Perm ((L1 ++ L2) ++ (R1 ++ R2)) ∧ M.Pairwise T ∧ SW (eI v) w0 blk off (P ++ (M ++ Z)).toArray wb) := by
                                    have hb := hB3.out
                                    simp only [Bool.and_eq_false_iff, decide_eq_false_iff_not] at hb
                                    rcases hb with hb | hb
                                    · have e : L2 = [] := List.eq_nil_of_length_eq_zero (by rw [L2l.out]; have := fs.out; omega)
                                      rw [e] at S4
                                      exact FIN.out R2 _ (by rw [e]; simp) SR2.2.1 (by simpa using S4.out)
                                    · have e : R2 = [] := List.eq_nil_of_length_eq_zero (by rw [R2l.out]; omega)
                                      rw [e] at S4
                                      exact FIN.out L2 _ (by rw [e]; simp) SL2.2.1 (by simpa using S4.out)
                                  go_wp2
                                  go_end0
                                  exact ⟨rfl, SE.out⟩
end Go.Proofs.YtegoapdbpfhkiaaGreat

/- The library's insertion sort under a comparison of one's own, laid by the shelf at this seat; the stable sort. -/
namespace Go.Proofs.YtegoapdbpfhkiaaGreat
open Go.RowKit Go.Sort Go.Shelf
set_option linter.unusedVariables false

def laysI_ren : Go.Shelf.Ren := ⟨fun | 20 => 90 | n => n, fun | 0 => 0 | 3 => 3 | 4 => 4 | 22 => 24 | 24 => 3 | 25 => 48 | n => n, fun n => n⟩
theorem laysI : Go.Proofs.SlLaysF.n20 Tryz.prog laysI_ren := {
  mixed := by kernel_rfl
  f20 := ⟨Tryz.f90.name, by kernel_rfl, Tryz.func90.trans (congrArg some (by kernel_rfl))⟩
  t0 := Tryz.underlying0
  a0 := Tryz.isAgg0
  z0 := Tryz.sizeOf0
  v0 := Tryz.zeroValue0
  t3 := Tryz.underlying3
  a3 := Tryz.isAgg3
  z3 := Tryz.sizeOf3
  v3 := Tryz.zeroValue3
  t4 := Tryz.underlying4
  a4 := Tryz.isAgg4
  z4 := Tryz.sizeOf4
  v4 := Tryz.zeroValue4
  t22 := Tryz.underlying24
  a22 := Tryz.isAgg24
  z22 := Tryz.sizeOf24
  v22 := Tryz.zeroValue24
  t25 := Tryz.underlying48
  a25 := Tryz.isAgg48
  z25 := Tryz.sizeOf48
  v25 := Tryz.zeroValue48
  a24 := Tryz.isAgg3
  z24 := Tryz.sizeOf3 }

theorem insI_m {α : Type} [Inhabited α] {T : α → α → Prop} (tr : ∀ x y z, T x y → T y z → T x z) (v : α → Int) (cf : α → α → Int) (g : Nat) (cb : Array Value) (blk off cap : Nat) (d0 : Array α) (w0 w : World) (R : Row1 (eI v) w0 blk off d0)
    (eg : ∀ args w, (callFunc g args).run Tryz.prog w = .ok (.enter g args) w) (hcmp : CmpLays1 Tryz.prog g cb (eI v) cf blk off d0.size w0) (hsz : d0.size < 4611686018427387904) (P X Z : List α) (a b : Nat) (ha : P.length = a) (hb : a + X.length = b) (hs : b + Z.length = d0.size)
    (hX : X.Pairwise (LtOf T (ltOf cf))) (S : SW (eI v) w0 blk off (P ++ (X ++ Z)).toArray w) :
    Calls Tryz.prog 90 #[.slice (some ⟨blk, off, none⟩) d0.size cap, .int .i64 a, .int .i64 b, .func (.func g) #[] cb] w fun e w' => e = .returned (.tuple #[]) ∧ ∃ M, M.Perm X ∧ M.Pairwise T ∧ SW (eI v) w0 blk off (P ++ (M ++ Z)).toArray w' := by
  have l : (P ++ (X ++ Z)).toArray.size = d0.size := by rw [List.size_toArray]; simp only [List.length_append]; omega
  have h := Any.insertionSortCmpFunc_s laysI (eI v) cf g cb blk off cap a b d0 (P ++ (X ++ Z)).toArray w0 w eg hcmp R l.symm S (by omega) (by rw [l]; omega) (by rw [l]; exact hsz)
  obtain ⟨M, e, s, p⟩ := sm_insertion (lt := ltOf cf) tr P X Z hX
  rw [ha, hb] at e
  rw [e, l] at h
  exact h.mono fun _ _ ⟨he, hw⟩ => ⟨he, M, p, s, hw⟩
end Go.Proofs.YtegoapdbpfhkiaaGreat

/- The library's stable sort of fewer than forty elements. -/
namespace Go.Proofs.YtegoapdbpfhkiaaGreat
open Go.RowKit Go.Sort
set_option linter.unusedVariables false

set_option maxHeartbeats 8000000 in
set_option maxRecDepth 1000000 in
theorem stable_m {α : Type} [Inhabited α] {T : α → α → Prop} (tr : ∀ x y z, T x y → T y z → T x z) (v : α → Int) (cf : α → α → Int) (g : Nat) (cb : Array Value) (blk off cap : Nat) (d0 : Array α) (w0 w : World) (R : Row1 (eI v) w0 blk off d0)
    (eg : ∀ args w, (callFunc g args).run Tryz.prog w = .ok (.enter g args) w) (hcmp : CmpLays1 Tryz.prog g cb (eI v) cf blk off d0.size w0) (X : List α) (hs : X.length = d0.size) (h40 : X.length < 40)
    (hX : X.Pairwise (LtOf T (ltOf cf))) (S : SW (eI v) w0 blk off X.toArray w) :
    Calls Tryz.prog 56 #[.slice (some ⟨blk, off, none⟩) d0.size cap, .int .i64 d0.size, .func (.func g) #[] cb] w fun e w' => e = .returned (.tuple #[]) ∧ ∃ M : List α, M.Perm X ∧ M.Pairwise T ∧ SW (eI v) w0 blk off M.toArray w' := by
  obtain ⟨n, hn⟩ : ∃ n, Hid (d0.size = n) := ⟨_, rfl⟩
  have INS := hide (fun (w : World) (P Y Z : List α) (a b : Nat) => insI_m tr v cf g cb blk off cap d0 w0 w R eg hcmp (by omega) P Y Z a b)
  have SYM := hide (fun (w : World) (P L U Z : List α) (a m b : Nat) => symMerge_m tr v cf g cb blk off cap d0 w0 R eg hcmp (by omega) (L.length + U.length) P L U Z w a m b (Nat.le_refl _))
  rw [hs] at h40
  rw [hn.out] at hs h40 INS SYM ⊢
  have HX := hide hX
  have S0 := hide S
  have HS := hide hs
  have hX2 := hX
  rw [← List.take_append_drop 20 X, List.pairwise_append] at hX2
  have HX2 := hide hX2
  have et : X = X.take 20 ++ X.drop 20 := (List.take_append_drop 20 X).symm
  have ET := hide et
  clear hX S hX2 et hs hcmp R tr
  go_enter Tryz.func56, Tryz.ntmps56
  go_wp2
  go_loopw [7, 8] (fun s7 s8 wr => (s7 = .int .i64 0 ∧ s8 = .int .i64 20 ∧ Hid (SW (eI v) w0 blk off X.toArray wr)) ∨ (s7 = .int .i64 20 ∧ s8 = .int .i64 40 ∧ 20 ≤ n ∧ Hid (∃ M1 : List α, M1.Perm (X.take 20) ∧ M1.Pairwise T ∧ SW (eI v) w0 blk off (M1 ++ X.drop 20).toArray wr))) (fun _ s8 _ => 40 - (intOf s8).toNat)
  case atStart => exact .inl ⟨rfl, rfl, S0⟩
  case round =>
    rcases hrel with ⟨rfl, rfl, S1⟩ | ⟨rfl, rfl, h20, S1⟩
    · by_cases h20 : 20 ≤ n
      · have h20z : (20 : Int) ≤ (n : Int) := by omega
        have CC := hide (INS.out wr [] (X.take 20) (X.drop 20) 0 20 rfl (by rw [List.length_take, HS.out]; omega) (by rw [List.length_drop, HS.out]; omega) HX2.out.1 (by rw [List.nil_append, List.take_append_drop]; exact S1.out))
        clear S1
        go_wp2_with (go_at_call 90; refine CC.out.mono ?_; rintro e w' ⟨rfl, M1, p1, t1, S2⟩)
        go_roundw
        case rel => exact .inr ⟨rfl, rfl, h20, M1, p1, t1, S2⟩
        case measure => simp [intOf]
      · have h20z : ¬ (20 : Int) ≤ (n : Int) := by omega
        have h20y : ¬ (20 : Int) < (n : Int) := by omega
        have CC := hide (INS.out wr [] X [] 0 n rfl (by rw [HS.out]; omega) (by simp) HX.out (by rw [List.nil_append, List.append_nil]; exact S1.out))
        clear S1
        go_wp2_with (go_at_call 90; refine CC.out.mono ?_; rintro e w' ⟨rfl, M1, p1, t1, S2⟩)
        rw [List.nil_append, List.append_nil] at S2
        have S3 := hide (And.intro p1 (And.intro t1 S2))
        clear p1 t1 S2
        rename World => w7
        go_loopw [6] (fun s6 wr => s6 = .int .i64 20 ∧ wr = w7) (fun _ _ => 0)
        case atStart => exact ⟨rfl, rfl⟩
        case round =>
          obtain ⟨rfl, rfl⟩ := hrel
          go_wp2
          go_end0
          exact ⟨rfl, M1, S3.out⟩
    · have h20z : (20 : Int) ≤ (n : Int) := by omega
      have h40z : ¬ (40 : Int) ≤ (n : Int) := by omega
      have h40y : ¬ (40 : Int) < (n : Int) := by omega
      obtain ⟨M1, p1, t1, S2⟩ := S1.out
      have l1 : Hid (M1.length = 20) := by show _ = _; rw [p1.length_eq, List.length_take, HS.out]; omega
      have CC := hide (INS.out wr M1 (X.drop 20) [] 20 n l1.out (by rw [List.length_drop, HS.out]; omega) (by simp) HX2.out.2.1 (by rw [List.append_nil]; exact S2))
      have P1 := hide (And.intro p1 t1)
      clear S1 S2 p1 t1
      go_wp2_with (go_at_call 90; refine CC.out.mono ?_; rintro e w' ⟨rfl, M2, p2, t2, S3'⟩)
      rw [List.append_nil] at S3'
      have S3 := hide S3'
      have P2 := hide (And.intro p2 t2)
      have l2 : Hid (M2.length = n - 20) := by show _ = _; rw [p2.length_eq, List.length_drop, HS.out]
      clear S3' p2 t2
      rename World => w7
      go_loopw [6] (fun s6 wr => (s6 = .int .i64 20 ∧ wr = w7) ∨ (s6 = .int .i64 40 ∧ Hid (∃ M : List α, M.Perm X ∧ M.Pairwise T ∧ SW (eI v) w0 blk off M.toArray wr))) (fun s6 _ => 40 - (intOf s6).toNat)
      case atStart => exact .inl ⟨rfl, rfl⟩
      case round =>
        rcases hrel with ⟨rfl, rfl⟩ | ⟨rfl, S9⟩
        · by_cases h21 : 20 < n
          · have h21z : (20 : Int) < (n : Int) := by omega
            have C2 := hide (SYM.out wr [] M1 M2 [] 0 20 n (by rw [l1.out]; omega) (by rw [l2.out]; omega) rfl (by rw [l1.out]) (by rw [l2.out]; omega) (by simp) P1.out.2 P2.out.2 (fun x hx y hy => HX2.out.2.2 x (P1.out.1.mem_iff.1 hx) y (P2.out.1.mem_iff.1 hy)) (by rw [List.nil_append, List.append_nil]; exact S3.out))
            go_wp2
            rename World => w8
            go_loopw [7, 8] (fun s7 s8 wx => s7 = .int .i64 0 ∧ s8 = .int .i64 40 ∧ wx = w8) (fun _ _ _ => 0)
            case atStart => exact ⟨rfl, rfl, rfl⟩
            case round =>
              obtain ⟨rfl, rfl, hw⟩ := hrel
              rw [hw]
              clear hw
              go_wp2_with (go_at_call 91; refine C2.out.mono ?_; rintro e w' ⟨rfl, M, p3, t3, S4⟩)
              go_roundw
              case rel =>
                refine .inr ⟨rfl, M, p3.trans ?_, t3, by rw [List.nil_append, List.append_nil] at S4; exact S4⟩
                rw [ET.out]
                exact P1.out.1.append P2.out.1
              case measure => simp [intOf]
          · have h21z : ¬ (20 : Int) < (n : Int) := by omega
            have e2 : M2 = [] := List.eq_nil_of_length_eq_zero (by rw [l2.out]; omega)
            go_wp2
            go_end0
            refine ⟨rfl, M1, ?_, P1.out.2, by have := S3.out; rw [e2, List.append_nil] at this; exact this⟩
            have h3 := P1.out.1
            rw [List.take_of_length_le (by rw [HS.out]; omega)] at h3
            exact h3
        · go_wp2
          go_end0
          exact ⟨rfl, S9.out⟩
theorem sortStable_m {α : Type} [Inhabited α] {T : α → α → Prop} (tr : ∀ x y z, T x y → T y z → T x z) (v : α → Int) (cf : α → α → Int) (g : Nat) (cb : Array Value) (blk off cap : Nat) (d0 : Array α) (w0 w : World) (R : Row1 (eI v) w0 blk off d0)
    (eg : ∀ args w, (callFunc g args).run Tryz.prog w = .ok (.enter g args) w) (hcmp : CmpLays1 Tryz.prog g cb (eI v) cf blk off d0.size w0) (X : List α) (hs : X.length = d0.size) (h40 : X.length < 40)
    (hX : X.Pairwise (LtOf T (ltOf cf))) (S : SW (eI v) w0 blk off X.toArray w) :
    Calls Tryz.prog 24 #[.slice (some ⟨blk, off, none⟩) d0.size cap, .func (.func g) #[] cb] w fun e w' => e = .returned (.tuple #[]) ∧ ∃ M : List α, M.Perm X ∧ M.Pairwise T ∧ SW (eI v) w0 blk off M.toArray w' := by
  have CC := hide (stable_m tr v cf g cb blk off cap d0 w0 w R eg hcmp X hs h40 hX S)
  have hz : (d0.size : Int) < 40 := by omega
  clear hcmp R hX S tr
  go_enter Tryz.func24, Tryz.ntmps24
  go_wp2_with (go_at_call 56; refine CC.out.mono ?_; rintro e w' ⟨rfl, M, p3, t3, S4⟩)
  go_end0
  exact ⟨rfl, M, p3, t3, S4⟩
end Go.Proofs.YtegoapdbpfhkiaaGreat
