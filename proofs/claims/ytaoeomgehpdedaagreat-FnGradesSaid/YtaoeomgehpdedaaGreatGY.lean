/- GY: PN, PQ, PR, PO, PU, PV, PW, PX, PY in one text. -/
import Derived.Test.YtaoeomgehpdedaaGreatRL
import Derived.Sort.Defs
/- The rules of a programme, plainly. -/
namespace Go.Proofs.YtaoeomgehpdedaaGreat
open Go.RowKit Go.Sort
set_option linter.unusedVariables false

/-- An element of the family 0. -/
def jump0 (d : CoD) (nm : List UInt8) : Bool := decide (0 ≤ findF d.1 nm) && ((d.1.getD (findF d.1 nm).toNat noEl).2.1 == 0)
def jumpN (d : CoD) (x : ItD) (nm : List UInt8) : Bool := ((x.1.length : Int) == 1) || jump0 d nm
/-- How often a name occurs, and how often in combined items. -/
def occI (nm : List UInt8) (x : ItD) : Nat := (x.1.filter (fun o => o == nm)).length
def occN (xs : List ItD) (nm : List UInt8) : Nat := (xs.map (occI nm)).sum
def combI (x : ItD) : Bool := decide (1 < x.1.length)
def occC (xs : List ItD) (nm : List UInt8) : Nat := (xs.map (fun x => if combI x then occI nm x else 0)).sum
def repW (d : CoD) (xs : List ItD) (nm : List UInt8) : Bool := decide ((occN xs nm : Int) ≤ d.2.2.1) && (((occN xs nm : Int) == 1) || decide (0 < (occC xs nm : Int)))
def twoN (xs : List ItD) : Nat := (xs.filter combI).length
def threeN (xs : List ItD) : Nat := (xs.filter (fun x => decide (2 < x.1.length))).length
/-- The family of an item by its first name, or -1. -/
def famI (d : CoD) (x : ItD) : Int := if findF d.1 (x.1.getD 0 []) < 0 then -1 else familyF d x
def famCnt (d : CoD) (xs : List ItD) (f : Nat) : Nat := (xs.filter (fun x => famI d x == (f : Int))).length
def lateB (xs : List ItD) : Bool := (List.range xs.length).all (fun i => (xs.getD i noItem).2.2 == decide ((xs.length : Int) ≤ 2 * (i : Int)))
def ruleB (d : CoD) (xs : List ItD) (r : Int) : Bool :=
  if r = 1 then decide (0 < (xs.length : Int))
  else if r = 2 then knownB d.1 xs
  else if r = 3 then xs.all (fun x => x.2.1.all (inB 0 0))
  else if r = 4 then xs.all (fun x => x.1.all (jumpN d x))
  else if r = 5 then decide ((twoN xs : Int) ≤ 3) && decide ((threeN xs : Int) ≤ 1)
  else if r = 6 then (List.range 5).all (fun f => decide ((famCnt d xs f : Int) ≤ d.2.1.getD f 0))
  else if r = 7 then xs.all (fun x => x.1.all (repW d xs))
  else lateB xs
def brokenN (d : CoD) (xs : List ItD) (k : Nat) : List Int := ((List.range k).map (fun (r : Nat) => (r : Int) + 1)).filter (fun r => !ruleB d xs r)
def brokenF (d : CoD) (xs : List ItD) : List Int := brokenN d xs 8
def progB (d : CoD) (xs : List ItD) : Bool := codeB d && itemsB xs && decide (((brokenF d xs).length : Int) = 0)
theorem brokenN_succ (d : CoD) (xs : List ItD) (k : Nat) : brokenN d xs (k + 1) = if ruleB d xs ((k : Int) + 1) then brokenN d xs k else brokenN d xs k ++ [(k : Int) + 1] := by
  unfold brokenN
  rw [List.range_succ, List.map_append, List.filter_append]
  cases h : ruleB d xs ((k : Int) + 1) <;> simp [h]
theorem brokenF_nil {d : CoD} {xs : List ItD} : (brokenF d xs).length = 0 ↔ ∀ r : Nat, r < 8 → ruleB d xs ((r : Int) + 1) = true := by
  unfold brokenF brokenN
  rw [List.length_eq_zero_iff, List.filter_eq_nil_iff]
  simp only [List.mem_map, List.mem_range, forall_exists_index, and_imp, forall_apply_eq_imp_iff₂, Bool.not_eq_true', Bool.not_eq_false]
theorem occI_pos {nm : List UInt8} {x : ItD} (h : nm ∈ x.1) : 0 < occI nm x := by
  unfold occI
  exact List.length_pos_of_mem (List.mem_filter.2 ⟨h, by simp⟩)
theorem occN_cons (x : ItD) (xs : List ItD) (nm : List UInt8) : occN (x :: xs) nm = occI nm x + occN xs nm := rfl
theorem occN_pos {xs : List ItD} {x : ItD} {nm : List UInt8} (hx : x ∈ xs) (hn : nm ∈ x.1) : 0 < occN xs nm := by
  induction xs with
  | nil => simp at hx
  | cons y t ih =>
    rw [occN_cons]
    rcases List.mem_cons.1 hx with rfl | hx
    · have := occI_pos hn; omega
    · have := ih hx; omega
/-- The two ways to say that a name is repeated as it may be. -/
theorem repW_eq {d : CoD} {xs : List ItD} {x : ItD} {nm : List UInt8} (hx : x ∈ xs) (hn : nm ∈ x.1) :
    repW d xs nm = !(decide (d.2.2.1 < (occN xs nm : Int)) || (decide (1 < (occN xs nm : Int)) && ((occC xs nm : Int) == 0))) := by
  have h := occN_pos hx hn
  unfold repW
  generalize occN xs nm = a at h ⊢
  generalize occC xs nm = b
  rw [Bool.eq_iff_iff]
  simp only [Bool.and_eq_true, decide_eq_true_eq, Bool.or_eq_true, beq_iff_eq, Bool.not_eq_true', Bool.or_eq_false_iff, decide_eq_false_iff_not, Bool.and_eq_false_iff, beq_eq_false_iff_ne]
  omega
theorem jumpN_eq (d : CoD) {x : ItD} (h : 0 < x.1.length) (nm : List UInt8) :
    jumpN d x nm = !(combI x && (decide (findF d.1 nm < 0) || !((d.1.getD (findF d.1 nm).toNat noEl).2.1 == 0))) := by
  unfold jumpN jump0 combI
  generalize (d.1.getD (findF d.1 nm).toNat noEl).2.1 = z
  generalize findF d.1 nm = y
  generalize x.1.length = n at h ⊢
  rw [Bool.eq_iff_iff]
  simp only [Bool.and_eq_true, decide_eq_true_eq, Bool.or_eq_true, beq_iff_eq, Bool.not_eq_true', Bool.or_eq_false_iff, decide_eq_false_iff_not, Bool.and_eq_false_iff, Bool.not_eq_false']
  omega
theorem threeN_eq {xs : List ItD} (h : itemsB xs = true) : threeN xs = (xs.filter (fun x => (x.1.length : Int) == 3)).length := by
  unfold threeN
  congr 1
  refine List.filter_congr (fun x hx => ?_)
  simp only [itemsB, Bool.and_eq_true, List.all_eq_true] at h
  have := itemB_ok (h.1 x hx)
  rw [Bool.eq_iff_iff]
  simp only [decide_eq_true_eq, beq_iff_eq]
  omega
/-- Late as the rule says. -/
def lateD (n i : Nat) (x : ItD) : ItD := (x.1, x.2.1, decide ((n : Int) ≤ 2 * (i : Int)))
def lateL (xs : List ItD) : List ItD := (List.range xs.length).map (fun i => lateD xs.length i (xs.getD i noItem))
theorem lateL_len (xs : List ItD) : (lateL xs).length = xs.length := by simp [lateL]
/-! ### Step by step -/
def occP (nm : List UInt8) (x : ItD) (j : Nat) : Nat := ((x.1.take j).filter (fun o => o == nm)).length
theorem occP_succ (nm : List UInt8) {x : ItD} {j : Nat} {o : List UInt8} (h : x.1[j]? = some o) : occP nm x (j + 1) = occP nm x j + if o == nm then 1 else 0 := by
  obtain ⟨hj, rfl⟩ := List.getElem?_eq_some_iff.1 h
  unfold occP
  rw [List.take_succ_eq_append_getElem hj, List.filter_append, List.length_append]
  cases hx : x.1[j] == nm <;> simp [hx]
theorem occP_all (nm : List UInt8) (x : ItD) : occP nm x x.1.length = occI nm x := by
  unfold occP occI
  rw [List.take_length]
theorem occP_le (nm : List UInt8) (x : ItD) (j : Nat) : occP nm x j ≤ x.1.length := by
  unfold occP
  have h1 := List.length_filter_le (fun o => o == nm) (x.1.take j)
  rw [List.length_take] at h1
  omega
theorem sum_map_succ {α : Type} (f : α → Nat) {xs : List α} {k : Nat} {x : α} (h : xs[k]? = some x) : ((xs.take (k + 1)).map f).sum = ((xs.take k).map f).sum + f x := by
  obtain ⟨hk, rfl⟩ := List.getElem?_eq_some_iff.1 h
  rw [List.take_succ_eq_append_getElem hk, List.map_append, List.sum_append]
  simp
theorem sum_map_le {α : Type} (f : α → Nat) (b : Nat) : ∀ (xs : List α), (∀ x ∈ xs, f x ≤ b) → (xs.map f).sum ≤ b * xs.length
  | [], _ => by simp
  | x :: t, h => by
    have h1 := h x (by simp)
    have h2 := sum_map_le f b t (fun y hy => h y (by simp [hy]))
    rw [List.map_cons, List.sum_cons, List.length_cons, Nat.mul_succ]
    omega
theorem occN_succ (nm : List UInt8) {xs : List ItD} {k : Nat} {x : ItD} (h : xs[k]? = some x) : occN (xs.take (k + 1)) nm = occN (xs.take k) nm + occI nm x := sum_map_succ _ h
theorem occC_succ (nm : List UInt8) {xs : List ItD} {k : Nat} {x : ItD} (h : xs[k]? = some x) : occC (xs.take (k + 1)) nm = occC (xs.take k) nm + if combI x then occI nm x else 0 := sum_map_succ (fun x => if combI x then occI nm x else 0) h
theorem occ_le {xs : List ItD} (h : ∀ x ∈ xs, x.1.length ≤ 3) (nm : List UInt8) (k : Nat) : occN (xs.take k) nm ≤ 3 * k ∧ occC (xs.take k) nm ≤ 3 * k := by
  have hl : (xs.take k).length ≤ k := by rw [List.length_take]; omega
  have hm : ∀ x ∈ xs.take k, occI nm x ≤ 3 := fun x hx => by
    have h1 := h x (List.mem_of_mem_take hx)
    have h2 := occP_le nm x x.1.length
    rw [occP_all] at h2
    omega
  have h1 := sum_map_le (occI nm) 3 (xs.take k) hm
  have h2 := sum_map_le (fun x => if combI x then occI nm x else 0) 3 (xs.take k) (fun x hx => by
    have := hm x hx
    show (if combI x then occI nm x else 0) ≤ 3
    split <;> omega)
  have h3 : 3 * (xs.take k).length ≤ 3 * k := Nat.mul_le_mul_left 3 hl
  exact ⟨Nat.le_trans h1 h3, Nat.le_trans h2 h3⟩
end Go.Proofs.YtaoeomgehpdedaaGreat

/- The insertion sort of the library is a stable insertion. -/
namespace Go.Proofs.YtaoeomgehpdedaaGreat
set_option linter.unusedVariables false

section
variable {α : Type} [Inhabited α] (lt : α → α → Bool)
/-- Where an element goes: behind the last of the first k that is not greater. -/
def posS (out : List α) (y : α) : Nat → Nat
  | 0 => 0
  | k + 1 => if lt y (out.getD k default) then posS out y k else k + 1
def insAt (out : List α) (y : α) (p : Nat) : List α := out.take p ++ y :: out.drop p
def insS (out : List α) (y : α) : List α := insAt out y (posS lt out y out.length)
def sortS (xs : List α) : List α := xs.foldl (insS lt) []
theorem posS_le (out : List α) (y : α) (k : Nat) : posS lt out y k ≤ k := by
  induction k with
  | zero => exact Nat.le_refl _
  | succ k ih => unfold posS; split <;> omega
theorem posS_snoc (out : List α) (z y : α) (k : Nat) (hk : k ≤ out.length) : posS lt (out ++ [z]) y k = posS lt out y k := by
  induction k with
  | zero => rfl
  | succ k ih =>
    unfold posS
    rw [ih (by omega), List.getD_eq_getElem?_getD, List.getElem?_append_left (by omega), ← List.getD_eq_getElem?_getD]
omit [Inhabited α] in
theorem insAt_len (out : List α) (y : α) (p : Nat) : (insAt out y p).length = out.length + 1 := by
  unfold insAt
  rw [List.length_append, List.length_cons, List.length_take, List.length_drop]
  omega
theorem insS_len (out : List α) (y : α) : (insS lt out y).length = out.length + 1 := insAt_len _ _ _
theorem insInner_list : ∀ (j : Nat) (out : List α) (y : α) (rest : List α), out.length = j →
    Go.Sort.insInner lt 0 j (out ++ y :: rest).toArray = (insAt out y (posS lt out y j) ++ rest).toArray
  | 0, out, y, rest, h => by
    have : out = [] := List.eq_nil_of_length_eq_zero h
    subst this
    rfl
  | j + 1, out, y, rest, h => by
    obtain ⟨o, z, rfl⟩ : ∃ o z, out = o ++ [z] := by
      have hne : out ≠ [] := by intro e; subst e; simp at h
      exact ⟨out.dropLast, out.getLast hne, (List.dropLast_concat_getLast hne).symm⟩
    have ho : o.length = j := by simpa using h
    have e1 : ((o ++ [z]) ++ y :: rest).toArray[j + 1]! = y := by
      rw [List.getElem!_toArray, getElem!_def, List.getElem?_append_right (by simp; omega)]
      simp [ho]
    have e0 : ((o ++ [z]) ++ y :: rest).toArray[j]! = z := by
      rw [List.getElem!_toArray, getElem!_def, List.getElem?_append_left (by simp; omega), List.getElem?_append_right (by omega)]
      simp [ho]
    have ez : (o ++ [z]).getD j default = z := by
      rw [List.getD_eq_getElem?_getD, List.getElem?_append_right (by omega)]
      simp [ho]
    unfold Go.Sort.insInner
    rw [e1, e0]
    unfold posS
    rw [ez]
    cases hl : lt y z
    · simp only [Bool.and_false, Bool.false_eq_true, if_false]
      congr 1
      unfold insAt
      rw [List.take_of_length_le (by simp; omega), List.drop_eq_nil_of_le (by simp; omega)]
      simp
    · simp only [Bool.and_true, if_true, gt_iff_lt, Nat.zero_lt_succ, decide_true]
      have hs : Go.Sort.swp ((o ++ [z]) ++ y :: rest).toArray (j + 1) j = (o ++ y :: z :: rest).toArray := by
        unfold Go.Sort.swp
        rw [e0, e1]
        apply Array.ext'
        rw [Array.toList_setIfInBounds, Array.toList_setIfInBounds]
        show ((o ++ [z] ++ y :: rest).set (j + 1) z).set j y = o ++ y :: z :: rest
        rw [List.append_assoc, List.set_append_right _ _ (by omega), ho, show j + 1 - j = 1 by omega, List.set_append_right _ _ (by omega), ho, Nat.sub_self]
        rfl
      rw [hs, insInner_list j o y (z :: rest) ho, posS_snoc lt o z y j (by omega)]
      congr 1
      unfold insAt
      have hp := posS_le lt o y j
      rw [List.take_append_of_le_length (by omega), List.drop_append_of_le_length (by omega)]
      simp
theorem insOuter_list (xs : List α) : ∀ (m k : Nat), xs.length - k = m → 1 ≤ k → k ≤ xs.length →
    Go.Sort.insOuter lt 0 xs.length k (sortS lt (xs.take k) ++ xs.drop k).toArray = (sortS lt xs).toArray := by
  have hlen : ∀ ys : List α, (sortS lt ys).length = ys.length := fun ys => by
    have : ∀ (ys out : List α), (ys.foldl (insS lt) out).length = out.length + ys.length := by
      intro ys
      induction ys with
      | nil => intro out; simp
      | cons y t ih => intro out; rw [List.foldl_cons, ih, insS_len]; simp; omega
    rw [sortS, this]
    simp
  intro m
  induction m with
  | zero =>
    intro k hm h1 hk
    have : k = xs.length := by omega
    subst this
    unfold Go.Sort.insOuter
    rw [if_neg (by omega), List.take_length, List.drop_length, List.append_nil]
  | succ m ih =>
    intro k hm h1 hk
    have hlt : k < xs.length := by omega
    unfold Go.Sort.insOuter
    rw [if_pos hlt, List.drop_eq_getElem_cons hlt, insInner_list lt k _ _ _ (by rw [hlen, List.length_take]; omega)]
    have e : insAt (sortS lt (xs.take k)) xs[k] (posS lt (sortS lt (xs.take k)) xs[k] k) = sortS lt (xs.take (k + 1)) := by
      rw [List.take_succ_eq_append_getElem hlt]
      show _ = (xs.take k ++ [xs[k]]).foldl (insS lt) []
      rw [List.foldl_append]
      show _ = insS lt (sortS lt (xs.take k)) xs[k]
      unfold insS
      rw [hlen, List.length_take, Nat.min_eq_left (by omega)]
    rw [e]
    exact ih (k + 1) (by omega) (by omega) hlt
/-- The library's insertion sort of a whole list. -/
theorem insertionSort_list (xs : List α) : Go.Sort.insertionSort lt xs.toArray 0 xs.length = (sortS lt xs).toArray := by
  unfold Go.Sort.insertionSort
  cases xs with
  | nil => unfold Go.Sort.insOuter; rfl
  | cons x t =>
    have h := insOuter_list lt (x :: t) t.length 1 (by simp) (Nat.le_refl _) (by simp)
    exact h
end
end Go.Proofs.YtaoeomgehpdedaaGreat

/- What a replaced item gains, plainly. -/
namespace Go.Proofs.YtaoeomgehpdedaaGreat
open Go.RowKit Go.Sort
set_option linter.unusedVariables false

/-- An item of one name. -/
def oneI (nm : List UInt8) : ItD := ([nm], [0], false)
def replL (xs : List ItD) (k : Nat) (nm : List UInt8) : List ItD := lateL (xs.set k (oneI nm))
def gainV (d : CoD) (xs ys : List ItD) : Int := (basesF d ys).sum - (basesF d xs).sum
def gainF (d : CoD) (xs : List ItD) (k : Int) (nm : List UInt8) : Int × Bool :=
  if progB d xs && inB 0 ((xs.length : Int) - 1) k && progB d (replL xs k.toNat nm) then (gainV d xs (replL xs k.toNat nm), true) else (0, false)
theorem lateL_at (xs : List ItD) (k : Nat) (h : k < xs.length) : (lateL xs)[k]? = some (lateD xs.length k xs[k]) := by
  unfold lateL
  rw [List.getElem?_map, List.getElem?_range h, Option.map_some, List.getD_eq_getElem?_getD, List.getElem?_eq_getElem h, Option.getD_some]
theorem replL_len (xs : List ItD) (k : Nat) (nm : List UInt8) : (replL xs k nm).length = xs.length := by
  unfold replL
  rw [lateL_len, List.length_set]
theorem replL_at {xs : List ItD} {k : Nat} (nm : List UInt8) (h : k < xs.length) : (replL xs k nm)[k]? = some ([nm], [0], decide ((xs.length : Int) ≤ 2 * (k : Int))) := by
  unfold replL
  rw [lateL_at _ _ (by rw [List.length_set]; exact h), List.getElem_set_self, List.length_set]
  rfl
theorem progB_rule {d : CoD} {xs : List ItD} (h : progB d xs = true) (r : Nat) (hr : r < 8) : ruleB d xs ((r : Int) + 1) = true := by
  unfold progB at h
  simp only [Bool.and_eq_true, decide_eq_true_eq] at h
  exact brokenF_nil.1 (by have := h.2; omega) r hr
theorem progB_known {d : CoD} {xs : List ItD} (h : progB d xs = true) : knownB d.1 xs = true := progB_rule h 1 (by decide)
theorem progB_code {d : CoD} {xs : List ItD} (h : progB d xs = true) : codeB d = true ∧ itemsB xs = true := by
  unfold progB at h
  simp only [Bool.and_eq_true] at h
  exact h.1
/-- A replaced programme knows the name. -/
theorem repl_known {d : CoD} {xs : List ItD} {k : Nat} {nm : List UInt8} (hk : k < xs.length) (h : progB d (replL xs k nm) = true) : 0 ≤ findF d.1 nm := by
  have h1 := progB_known h
  unfold knownB at h1
  rw [List.all_eq_true] at h1
  have h2 := h1 _ (List.mem_of_getElem? (replL_at nm hk))
  simpa [knownI] using h2
/-- A known name is a name, and is that of its element. -/
theorem find_name {d : CoD} {nm : List UInt8} (hc : codeB d = true) (h : 0 ≤ findF d.1 nm) : nameB nm = true ∧ (d.1.getD (findF d.1 nm).toNat noEl).1 = nm := by
  obtain ⟨k, x, e, hx, rfl⟩ := findF_some h
  have h1 := (codeB_ok hc).els k x hx
  refine ⟨?_, ?_⟩
  · simp only [elB, Bool.and_eq_true] at h1
    exact h1.1.1.1
  · rw [e, Int.toNat_natCast, List.getD_eq_getElem?_getD, hx, Option.getD_some]
/-- The two guards of ReplaceGain agree. -/
theorem gain_guard {d : CoD} {xs : List ItD} {k : Int} {nm : List UInt8} :
    (progB d xs && inB 0 ((xs.length : Int) - 1) k && nameB nm && progB d (replL xs k.toNat nm)) = (progB d xs && inB 0 ((xs.length : Int) - 1) k && progB d (replL xs k.toNat nm)) ∧
    (progB d xs && inB 0 ((xs.length : Int) - 1) k && decide (0 ≤ findF d.1 nm) && progB d (replL xs k.toNat nm)) = (progB d xs && inB 0 ((xs.length : Int) - 1) k && progB d (replL xs k.toNat nm)) := by
  cases hp : progB d xs
  · simp
  cases hk : inB 0 ((xs.length : Int) - 1) k
  · simp
  cases hr : progB d (replL xs k.toNat nm)
  · simp
  have hb : 0 ≤ k ∧ k ≤ (xs.length : Int) - 1 := by simpa only [inB, Bool.and_eq_true, decide_eq_true_eq] using hk
  have h1 := repl_known (by omega) hr
  have h2 := (find_name (progB_code hp).1 h1).1
  rw [h2]
  simp [h1]
/-- The sorted programme. -/
def ltF (d : CoD) (x y : ItD) : Bool := decide (fullF d x < fullF d y)
def earlyD (x : ItD) : ItD := (x.1, x.2.1, false)
def orderL (d : CoD) (xs : List ItD) : List ItD := lateL (sortS (ltF d) (xs.map earlyD))
def orderF (d : CoD) (xs : List ItD) : List ItD × Bool := if progB d xs then (orderL d xs, true) else ([], false)
end Go.Proofs.YtaoeomgehpdedaaGreat

/- How often a name occurs. -/
namespace Go.Proofs.YtaoeomgehpdedaaGreat
open Go.RowKit Go.Sort
set_option linter.unusedVariables false

theorem get_exP {α : Type} (xs : List α) (k : Nat) (h : k < xs.length) : ∃ x, Hid (xs[k]? = some x) := ⟨xs[k], List.getElem?_eq_getElem h⟩

set_option maxRecDepth 100000 in
set_option maxHeartbeats 2000000 in
theorem s.pgTimes_m (w : World) (A : Option Addr) (c B : Nat) (xs : List ItD) (nm : List UInt8) (hi : LR kdItem w B A c xs) (hB : B ≤ w.heap.size) (h14 : xs.length ≤ 14) (h3 : ∀ x ∈ xs, x.1.length ≤ 3) :
    Calls Tryz.prog 143 #[.slice A xs.length c, .string (bs nm)] w fun e w' => e = .returned (.tuple #[.int .i64 (occN xs nm), .int .i64 (occC xs nm)]) ∧ Ext w w' := by
  have H := hide hi
  have H3 := hide h3
  have a1 := hi.1; have a2 := hi.2.1
  have OL := hide (occ_le h3 nm)
  clear hi h3
  obtain ⟨n, hn⟩ : ∃ n, Hid (xs.length = n) := ⟨_, rfl⟩
  obtain ⟨RN, hRN⟩ : ∃ z, Hid (occN xs nm = z) := ⟨_, rfl⟩
  obtain ⟨RC, hRC⟩ : ∃ z, Hid (occC xs nm = z) := ⟨_, rfl⟩
  rw [hn.out] at h14 a1 ⊢
  rw [hRN.out, hRC.out]
  have EQ : Hid (∀ o : List UInt8, ((bs o).toList == (bs nm).toList) = (o == nm)) := fun o => by rw [bs_toList, bs_toList]
  generalize bs nm = nb at *
  go_enter Tryz.func143, Tryz.ntmps143
  go_wp2
  go_loopw [6, 7, 14] (fun t u i0 wr => ∃ (k a b : Nat), k ≤ n ∧ i0 = .int .i64 k ∧ t = .int .i64 a ∧ u = .int .i64 b ∧ Hid (a = occN (xs.take k) nm) ∧ Hid (b = occC (xs.take k) nm) ∧ Ext w wr) (fun _ _ i0 _ => n - (intOf i0).toNat)
  case atStart => exact ⟨0, 0, 0, Nat.zero_le _, rfl, rfl, rfl, rfl, rfl, Ext.refl _⟩
  case round =>
    obtain ⟨k, a, b, hk, rfl, rfl, rfl, ha, hb, hx⟩ := hrel
    have HX := hide hx
    have ol := OL.out k
    rw [← ha.out, ← hb.out] at ol
    have ol1 := ol.1; have ol2 := ol.2
    clear hx ol
    by_cases hlt : k < n
    · obtain ⟨x, hxk⟩ : ∃ x, Hid (xs[k]? = some x) := get_exP xs k (by rw [hn.out]; exact hlt)
      have x3 := H3.out x (List.mem_of_getElem? hxk.out)
      obtain ⟨bb, off, A1, c1, A2, c2, rfl, hbb, q0, q1, q2, r1, r2⟩ := (H.out.ext HX.out hB).item k x hxk.out
      have sz := HX.out.size
      obtain ⟨W1, hW1⟩ : ∃ W1, Hid (W1 = wr.alloc (.cells #[.slice A1 x.1.length c1, .slice A2 x.2.1.length c2, .bool x.2.2] 47)) := ⟨_, rfl⟩
      have X1 : Hid (Ext w W1) := by rw [hW1.out]; exact HX.out.trans (Ext.alloc _ _)
      have B1 : Hid (Blk W1 wr.heap.size #[.slice A1 x.1.length c1, .slice A2 x.2.1.length c2, .bool x.2.2] 47) := by rw [hW1.out]; exact Blk.new rfl _ _
      have R1 := hide (r1.ext (show Ext wr W1 by rw [hW1.out]; exact Ext.alloc _ _) (by omega))
      have b1 := r1.1; have b2 := r1.2.1
      have OP := hide (occP_all nm x)
      have CI : Hid (combI x = decide (1 < x.1.length)) := rfl
      clear r1 r2
      obtain ⟨m, hm⟩ : ∃ m, Hid (x.1.length = m) := ⟨_, rfl⟩
      rw [hm.out] at q0 hW1 b1 B1 x3 OP CI
      generalize x.2.1.length = m2 at *
      generalize x.2.2 = m3 at *
      have cI := B1.out.cell
      rw [hW1.out] at cI
      go_wp2
      rw [← hW1.out]
      clear hW1 q0 q1 q2 cI
      go_loopw [6, 7, 21] (fun t u i0 wq => ∃ (j a' b' : Nat), j ≤ m ∧ i0 = .int .i64 j ∧ t = .int .i64 a' ∧ u = .int .i64 b' ∧ Hid (a' = a + occP nm x j) ∧ Hid (b' = b + if combI x then occP nm x j else 0) ∧ a' ≤ a + j ∧ b' ≤ b + j ∧ Ext W1 wq) (fun _ _ i0 _ => m - (intOf i0).toNat)
      case atStart => exact ⟨0, a, b, Nat.zero_le _, rfl, rfl, rfl, by show _ = _; simp [occP], by show _ = _; simp [occP], by omega, by omega, Ext.refl _⟩
      case round =>
        obtain ⟨j, a', b', hj, rfl, rfl, rfl, ha', hb', la, lb, hx⟩ := hrel
        have HX2 := hide hx
        clear hx
        have sz1 := X1.out.size
        have cI := (B1.out.ext HX2.out).cell
        by_cases hltj : j < m
        · obtain ⟨o, hoj⟩ : ∃ o, Hid (x.1[j]? = some o) := get_exP x.1 j (by rw [hm.out]; exact hltj)
          obtain ⟨b9, off9, rfl, hb9, u0, ul⟩ := (R1.out.ext HX2.out (by omega)).str j o hoj.out
          have PS := hide (occP_succ nm hoj.out)
          have EX := EQ.out o
          cases he : (o == nm)
          · rw [he] at EX PS
            clear he
            generalize bs o = ob at *
            go_wp2
            go_roundw
            case rel => exact ⟨j + 1, a', b', by omega, by go_num, rfl, rfl, by show _ = _; rw [PS.out, ha'.out]; simp, by show _ = _; rw [PS.out, hb'.out]; simp, by omega, by omega, HX2.out⟩
            case measure => simp [intOf]; omega
          · rw [he] at EX PS
            clear he
            generalize bs o = ob at *
            by_cases hcm : 1 < m
            · have HC : Hid (combI x = true) := by show _ = _; rw [CI.out]; simp [hcm]
              have i1 : (1 : Int) < m := by omega
              clear hcm
              go_wp2
              go_roundw
              case rel => exact ⟨j + 1, a' + 1, b' + 1, by omega, by go_num, by go_num, by go_num, by show _ = _; rw [PS.out, ha'.out]; simp; omega, by show _ = _; rw [PS.out, hb'.out, HC.out]; simp; omega, by omega, by omega, HX2.out⟩
              case measure => simp [intOf]; omega
            · have HC : Hid (combI x = false) := by show _ = _; rw [CI.out]; simp [hcm]
              have i1 : ¬ (1 : Int) < m := by omega
              clear hcm
              go_wp2
              go_roundw
              case rel => exact ⟨j + 1, a' + 1, b', by omega, by go_num, by go_num, rfl, by show _ = _; rw [PS.out, ha'.out]; simp; omega, by show _ = _; rw [hb'.out, HC.out]; simp, by omega, by omega, HX2.out⟩
              case measure => simp [intOf]; omega
        · have ej : m = j := by omega
          subst ej
          rw [OP.out] at ha' hb'
          go_wp2
          go_roundw
          case rel => exact ⟨k + 1, a', b', by omega, by go_num, rfl, rfl, by show _ = _; rw [ha'.out, ha.out, occN_succ nm hxk.out], by show _ = _; rw [hb'.out, hb.out, occC_succ nm hxk.out], X1.out.trans HX2.out⟩
          case measure => simp [intOf]; omega
    · have ek : n = k := by omega
      subst ek
      rw [List.take_of_length_le (by rw [hn.out]; exact Nat.le_refl _)] at ha hb
      rw [hRN.out] at ha
      rw [hRC.out] at hb
      go_wp2
      refine bodyPost_ret (v := .tuple #[.int .i64 a, .int .i64 b]) (by simp [results, Tryz.results143, go_sem]) rfl ?_
      exact ⟨by rw [ha.out, hb.out], HX.out⟩
end Go.Proofs.YtaoeomgehpdedaaGreat

/- How many items are combined. -/
namespace Go.Proofs.YtaoeomgehpdedaaGreat
open Go.RowKit Go.Sort
set_option linter.unusedVariables false

theorem filter_succ {α : Type} (f : α → Bool) {xs : List α} {k : Nat} {x : α} (h : xs[k]? = some x) : ((xs.take (k + 1)).filter f).length = ((xs.take k).filter f).length + if f x then 1 else 0 := by
  obtain ⟨hk, rfl⟩ := List.getElem?_eq_some_iff.1 h
  rw [List.take_succ_eq_append_getElem hk, List.filter_append, List.length_append]
  cases hx : f xs[k] <;> simp [hx]
theorem twoN_succ {xs : List ItD} {k : Nat} {x : ItD} (h : xs[k]? = some x) : twoN (xs.take (k + 1)) = twoN (xs.take k) + if combI x then 1 else 0 := filter_succ combI h
theorem threeN_succ {xs : List ItD} {k : Nat} {x : ItD} (h : xs[k]? = some x) : threeN (xs.take (k + 1)) = threeN (xs.take k) + if decide (2 < x.1.length) then 1 else 0 := filter_succ (fun (x : ItD) => decide (2 < x.1.length)) h

set_option maxRecDepth 100000 in
set_option maxHeartbeats 2000000 in
theorem s.pgCombined_m (w : World) (A : Option Addr) (c B : Nat) (xs : List ItD) (hi : LR kdItem w B A c xs) (hB : B ≤ w.heap.size) (h14 : xs.length ≤ 14) (h3 : ∀ x ∈ xs, x.1.length ≤ 3) :
    Calls Tryz.prog 137 #[.slice A xs.length c] w fun e w' => e = .returned (.tuple #[.int .i64 (twoN xs), .int .i64 (threeN xs)]) ∧ Ext w w' := by
  have H := hide hi
  have H3 := hide h3
  have a1 := hi.1; have a2 := hi.2.1
  clear hi h3
  obtain ⟨n, hn⟩ : ∃ n, Hid (xs.length = n) := ⟨_, rfl⟩
  obtain ⟨RN, hRN⟩ : ∃ z, Hid (twoN xs = z) := ⟨_, rfl⟩
  obtain ⟨RC, hRC⟩ : ∃ z, Hid (threeN xs = z) := ⟨_, rfl⟩
  rw [hn.out] at h14 a1 ⊢
  rw [hRN.out, hRC.out]
  go_enter Tryz.func137, Tryz.ntmps137
  go_wp2
  go_loopw [4, 5, 10] (fun t u i0 wr => ∃ (k a b : Nat), k ≤ n ∧ i0 = .int .i64 k ∧ t = .int .i64 a ∧ u = .int .i64 b ∧ Hid (a = twoN (xs.take k)) ∧ Hid (b = threeN (xs.take k)) ∧ a ≤ k ∧ b ≤ k ∧ Ext w wr) (fun _ _ i0 _ => n - (intOf i0).toNat)
  case atStart => exact ⟨0, 0, 0, Nat.zero_le _, rfl, rfl, rfl, rfl, rfl, Nat.le_refl _, Nat.le_refl _, Ext.refl _⟩
  case round =>
    obtain ⟨k, a, b, hk, rfl, rfl, rfl, ha, hb, la, lb, hx⟩ := hrel
    have HX := hide hx
    clear hx
    by_cases hlt : k < n
    · obtain ⟨x, hxk⟩ : ∃ x, Hid (xs[k]? = some x) := get_exP xs k (by rw [hn.out]; exact hlt)
      have x3 := H3.out x (List.mem_of_getElem? hxk.out)
      obtain ⟨bb, off, A1, c1, A2, c2, rfl, hbb, q0, q1, q2, r1, r2⟩ := (H.out.ext HX.out hB).item k x hxk.out
      have b1 := r1.1; have b2 := r1.2.1
      have TS := hide (twoN_succ hxk.out)
      have HS := hide (threeN_succ hxk.out)
      have CI : combI x = decide (1 < x.1.length) := rfl
      rw [CI] at TS
      have XN := hide (HX.out.trans (Ext.alloc wr (.cells #[.slice A1 x.1.length c1, .slice A2 x.2.1.length c2, .bool x.2.2] 47)))
      clear r1 r2 CI
      obtain ⟨m, hm⟩ : ∃ m, Hid (x.1.length = m) := ⟨_, rfl⟩
      rw [hm.out] at q0 b1 x3 TS HS XN
      generalize x.2.1.length = m2 at *
      generalize x.2.2 = m3 at *
      by_cases h1 : 1 < m
      · by_cases h2 : 2 < m
        · have i1 : (1 : Int) < m := by omega
          have i2 : (2 : Int) < m := by omega
          rw [if_pos (by simp [h1])] at TS
          rw [if_pos (by simp [h2])] at HS
          clear h1 h2
          go_wp2
          go_roundw
          case rel => exact ⟨k + 1, a + 1, b + 1, by omega, by go_num, by go_num, by go_num, by show _ = _; rw [TS.out, ha.out], by show _ = _; rw [HS.out, hb.out], by omega, by omega, XN.out⟩
          case measure => simp [intOf]; omega
        · have i1 : (1 : Int) < m := by omega
          have i2 : ¬ (2 : Int) < m := by omega
          rw [if_pos (by simp [h1])] at TS
          rw [if_neg (by simp [h2])] at HS
          clear h1 h2
          go_wp2
          go_roundw
          case rel => exact ⟨k + 1, a + 1, b, by omega, by go_num, by go_num, rfl, by show _ = _; rw [TS.out, ha.out], by show _ = _; rw [HS.out, hb.out, Nat.add_zero], by omega, by omega, XN.out⟩
          case measure => simp [intOf]; omega
      · have i1 : ¬ (1 : Int) < m := by omega
        have i2 : ¬ (2 : Int) < m := by omega
        rw [if_neg (by simp [h1])] at TS
        rw [if_neg (by simp; omega)] at HS
        clear h1
        go_wp2
        go_roundw
        case rel => exact ⟨k + 1, a, b, by omega, by go_num, rfl, rfl, by show _ = _; rw [TS.out, ha.out, Nat.add_zero], by show _ = _; rw [HS.out, hb.out, Nat.add_zero], by omega, by omega, XN.out⟩
        case measure => simp [intOf]; omega
    · have ek : n = k := by omega
      subst ek
      rw [List.take_of_length_le (by rw [hn.out]; exact Nat.le_refl _)] at ha hb
      rw [hRN.out] at ha
      rw [hRC.out] at hb
      go_wp2
      refine bodyPost_ret (v := .tuple #[.int .i64 a, .int .i64 b]) (by simp [results, Tryz.results137, go_sem]) rfl ?_
      exact ⟨by rw [ha.out, hb.out], HX.out⟩
end Go.Proofs.YtaoeomgehpdedaaGreat

/- How many items are combined. -/
namespace Go.Proofs.YtaoeomgehpdedaaGreat
open Go.RowKit Go.Sort
set_option linter.unusedVariables false


end Go.Proofs.YtaoeomgehpdedaaGreat

/- Late as the rule says. -/
namespace Go.Proofs.YtaoeomgehpdedaaGreat
open Go.RowKit Go.Sort
set_option linter.unusedVariables false

def lateAt (xs : List ItD) (i : Nat) : Bool := (xs.getD i noItem).2.2 == decide ((xs.length : Int) ≤ 2 * (i : Int))
theorem lateB_eq (xs : List ItD) : lateB xs = (List.range xs.length).all (lateAt xs) := rfl

set_option maxRecDepth 100000 in
set_option maxHeartbeats 2000000 in
theorem s.pgHalf_m (w : World) (A : Option Addr) (c B : Nat) (xs : List ItD) (hi : LR kdItem w B A c xs) (hB : B ≤ w.heap.size) (h14 : xs.length ≤ 14) :
    Calls Tryz.prog 139 #[.slice A xs.length c] w fun e w' => e = .returned (.bool (lateB xs)) ∧ Ext w w' := by
  have H := hide hi
  have a1 := hi.1; have a2 := hi.2.1
  clear hi
  obtain ⟨n, hn⟩ : ∃ n, Hid (xs.length = n) := ⟨_, rfl⟩
  obtain ⟨R, hR⟩ : ∃ R, Hid (lateB xs = R) := ⟨_, rfl⟩
  have LE := hide (lateB_eq xs)
  rw [hn.out] at h14 a1 LE ⊢
  rw [hR.out]
  go_enter Tryz.func139, Tryz.ntmps139
  go_wp2
  go_loopw [7] (fun i0 wr => ∃ (k : Nat), k ≤ n ∧ i0 = .int .i64 k ∧ ((List.range n).take k).all (lateAt xs) = true ∧ Ext w wr) (fun i0 _ => n - (intOf i0).toNat)
  case atStart => exact ⟨0, Nat.zero_le _, rfl, rfl, Ext.refl _⟩
  case round =>
    obtain ⟨k, hk, rfl, hall, hx⟩ := hrel
    have HA := hide hall
    have HX := hide hx
    clear hall hx
    by_cases hlt : k < n
    · obtain ⟨x, hxk⟩ : ∃ x, Hid (xs[k]? = some x) := get_exP xs k (by rw [hn.out]; exact hlt)
      obtain ⟨bb, off, A1, c1, A2, c2, rfl, hbb, q0, q1, q2, r1, r2⟩ := (H.out.ext HX.out hB).item k x hxk.out
      have RK := hide (List.getElem?_range hlt)
      have LA : Hid (lateAt xs k = (x.2.2 == decide ((n : Int) ≤ 2 * (k : Int)))) := by show _ = _; unfold lateAt; rw [List.getD_eq_getElem?_getD, hxk.out, Option.getD_some, hn.out]
      have XN := hide (HX.out.trans (Ext.alloc wr (.cells #[.slice A1 x.1.length c1, .slice A2 x.2.1.length c2, .bool x.2.2] 47)))
      clear r1 r2
      generalize x.1.length = m1 at *
      generalize x.2.1.length = m2 at *
      generalize x.2.2 = m3 at *
      cases m3 <;> by_cases h2 : (n : Int) ≤ 2 * (k : Int)
      · have HF : Hid (R = false) := by show _ = _; rw [← hR.out, LE.out]; exact allL_stop RK.out (by rw [LA.out]; simp [h2])
        go_wp2
        go_ret
        exact ⟨ret_bool HF.out.symm, XN.out⟩
      · have HN : Hid (lateAt xs k = true) := by show _ = _; rw [LA.out]; simp [h2]
        go_wp2
        go_roundw
        case rel => exact ⟨k + 1, by omega, by go_num, allL_step RK.out HA.out HN.out, XN.out⟩
        case measure => simp [intOf]; omega
      · have HN : Hid (lateAt xs k = true) := by show _ = _; rw [LA.out]; simp [h2]
        go_wp2
        go_roundw
        case rel => exact ⟨k + 1, by omega, by go_num, allL_step RK.out HA.out HN.out, XN.out⟩
        case measure => simp [intOf]; omega
      · have HF : Hid (R = false) := by show _ = _; rw [← hR.out, LE.out]; exact allL_stop RK.out (by rw [LA.out]; simp [h2])
        go_wp2
        go_ret
        exact ⟨ret_bool HF.out.symm, XN.out⟩
    · have HF : Hid (R = true) := by show _ = _; rw [← hR.out, LE.out]; exact allL_end (by rw [List.length_range]; omega) HA.out
      go_wp2
      go_ret
      exact ⟨ret_bool HF.out.symm, HX.out⟩
end Go.Proofs.YtaoeomgehpdedaaGreat

/- Items without marks. -/
namespace Go.Proofs.YtaoeomgehpdedaaGreat
open Go.RowKit Go.Sort
set_option linter.unusedVariables false
def unmP (it : ItD) : Bool := it.2.1.all (inB 0 0)

set_option maxRecDepth 100000 in
set_option maxHeartbeats 2000000 in
theorem s.pgClean_any (w : World) (A : Option Addr) (c B : Nat) (xs : List ItD) (h : LR kdItem w B A c xs) (hB : B ≤ w.heap.size) (hwt : wtL kdItem xs ≤ 1048576) :
    Calls Tryz.prog 136 #[.slice A xs.length c] w fun e w' => e = .returned (.bool (xs.all unmP)) ∧ Ext w w' := by
  have H := hide h
  have HW := hide hwt
  have hlen := wtL_len kdItem xs
  have a1 := h.1; have a2 := h.2.1
  obtain ⟨R, hR⟩ : ∃ R, Hid (xs.all unmP = R) := ⟨_, rfl⟩
  rw [hR.out]
  obtain ⟨n, hn⟩ : ∃ n, Hid (xs.length = n) := ⟨_, rfl⟩
  rw [hn.out] at hlen a1 ⊢
  have n1 : n ≤ 1048576 := by omega
  clear h hwt hlen
  have HEND : Hid (xs.all unmP = true → R = true) := fun h8 => by rw [← hR.out, h8]
  have HSTOP : Hid (xs.all unmP = false → R = false) := fun h8 => by rw [← hR.out, h8]
  clear hR
  go_enter Tryz.func136, Tryz.ntmps136
  have X0 := hide (Ext.refl w)
  go_wp2
  go_loopw [7] (fun i wr => ∃ (k : Nat), k ≤ n ∧ i = .int .i64 k ∧ (xs.take k).all unmP = true ∧ Ext w wr) (fun i _ => n - (intOf i).toNat)
  case atStart => exact ⟨0, Nat.zero_le _, rfl, rfl, X0.out⟩
  case round =>
    obtain ⟨k, hk, rfl, hall, hx⟩ := hrel
    have HA := hide hall
    have HX := hide hx
    clear hall hx
    by_cases hlt : k < n
    · obtain ⟨x, hxk⟩ : ∃ x, Hid (xs[k]? = some x) := ⟨_, List.getElem?_eq_getElem (by rw [hn.out]; exact hlt)⟩
      obtain ⟨b, off, A1, c1, A2, c2, rfl, hb, q0, q1, q2, r1, r2⟩ := (H.out.ext HX.out hB).item k x hxk.out
      have hsz := HX.out.size
      have hx2 := (kdItem.wt_le (Nat.le_trans (wtL_at kdItem xs k x hxk.out) HW.out)).2.1
      obtain ⟨W1, hW1⟩ : ∃ W1, Hid (W1 = wr.alloc (.cells #[.slice A1 x.1.length c1, .slice A2 x.2.1.length c2, .bool x.2.2] 47)) := ⟨_, rfl⟩
      have x1 : Ext wr W1 := by rw [hW1.out]; exact Ext.alloc _ _
      have AL := hide (s.l1All_any A2 x.2.1.length c2 B x.2.1 0 0 W1 (r2.sl.ext x1 (by omega)) hx2)
      replace HX := hide (HX.out.trans x1)
      clear x1 r1 r2 hx2
      have e1 : x.2.1.all (inB 0 0) = unmP x := rfl
      rw [e1] at AL
      clear e1
      go_wp2_with fail
      rw [← hW1.out]
      clear hW1
      refine AL.out.mono ?_
      rintro e w2 ⟨rfl, rfl⟩
      cases hb2 : unmP x
      · have HN := hide hb2
        clear hb2
        go_wp2
        go_ret
        exact ⟨ret_bool (HSTOP.out (allL_stop hxk.out HN.out)).symm, HX.out⟩
      · have HN := hide hb2
        clear hb2
        go_wp2
        go_roundw
        case rel => exact ⟨k + 1, by omega, by go_num, allL_step hxk.out HA.out HN.out, HX.out⟩
        case measure => simp [intOf]; omega
    · have HE := hide (allL_end (by rw [hn.out]; omega) HA.out)
      go_wp2
      go_ret
      exact ⟨ret_bool (HEND.out HE.out).symm, HX.out⟩
end Go.Proofs.YtaoeomgehpdedaaGreat

/- Names repeated as they may be. -/
namespace Go.Proofs.YtaoeomgehpdedaaGreat
open Go.RowKit Go.Sort
set_option linter.unusedVariables false
def repI (d : CoD) (xs : List ItD) (x : ItD) : Bool := x.1.all (repW d xs)

end Go.Proofs.YtaoeomgehpdedaaGreat
