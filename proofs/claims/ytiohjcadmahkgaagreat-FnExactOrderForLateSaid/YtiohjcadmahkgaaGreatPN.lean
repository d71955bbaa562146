/- The rules of a programme, plainly. -/
import Derived.Test.YtiohjcadmahkgaaGreatRL
namespace Go.Proofs.YtiohjcadmahkgaaGreat
open Go.RowKit Go.Sort
set_option linter.unusedVariables false

/-- An element of the family 0. -/
def jump0 (d : CoD) (nm : List UInt8) : Bool := decide (0 ≤ findF d.1 nm) && ((d.1.getD (findF d.1 nm).toNat noEl).2.1 == 0)
def jumpN (d : CoD) (x : ItD) (nm : List UInt8) : Bool := ((x.1.length : Int) == 1) || jump0 d nm
/-- How often a name occurs, and how often in combined items. -/
def occI (nm : List UInt8) (x : ItD) : Nat := (x.1.filter (fun o => o == nm)).length
def occN (xs : List ItD) (nm : List UInt8) : Nat := (xs.map (occI nm)).sum
def combI (x : ItD) : Bool := decide (1 < x.1.length)
def occC (xs : List ItD) (nm : List UInt8) : Nat := (xs.map (fun x => if combI x then occI nm x else 0)).sum
def repW (d : CoD) (xs : List ItD) (nm : List UInt8) : Bool := decide ((occN xs nm : Int) ≤ d.2.2.1) && (((occN xs nm : Int) == 1) || decide (0 < (occC xs nm : Int)))
def twoN (xs : List ItD) : Nat := (xs.filter combI).length
def threeN (xs : List ItD) : Nat := (xs.filter (fun x => decide (2 < x.1.length))).length
/-- The family of an item by its first name, or -1. -/
def famI (d : CoD) (x : ItD) : Int := if findF d.1 (x.1.getD 0 []) < 0 then -1 else familyF d x
def famCnt (d : CoD) (xs : List ItD) (f : Nat) : Nat := (xs.filter (fun x => famI d x == (f : Int))).length
def lateB (xs : List ItD) : Bool := (List.range xs.length).all (fun i => (xs.getD i noItem).2.2 == decide ((xs.length : Int) ≤ 2 * (i : Int)))
def ruleB (d : CoD) (xs : List ItD) (r : Int) : Bool :=
  if r = 1 then decide (0 < (xs.length : Int))
  else if r = 2 then knownB d.1 xs
  else if r = 3 then xs.all (fun x => x.2.1.all (inB 0 0))
  else if r = 4 then xs.all (fun x => x.1.all (jumpN d x))
  else if r = 5 then decide ((twoN xs : Int) ≤ 3) && decide ((threeN xs : Int) ≤ 1)
  else if r = 6 then (List.range 5).all (fun f => decide ((famCnt d xs f : Int) ≤ d.2.1.getD f 0))
  else if r = 7 then xs.all (fun x => x.1.all (repW d xs))
  else lateB xs
def brokenN (d : CoD) (xs : List ItD) (k : Nat) : List Int := ((List.range k).map (fun (r : Nat) => (r : Int) + 1)).filter (fun r => !ruleB d xs r)
def brokenF (d : CoD) (xs : List ItD) : List Int := brokenN d xs 8
def progB (d : CoD) (xs : List ItD) : Bool := codeB d && itemsB xs && decide (((brokenF d xs).length : Int) = 0)
theorem brokenN_succ (d : CoD) (xs : List ItD) (k : Nat) : brokenN d xs (k + 1) = if ruleB d xs ((k : Int) + 1) then brokenN d xs k else brokenN d xs k ++ [(k : Int) + 1] := by
  unfold brokenN
  rw [List.range_succ, List.map_append, List.filter_append]
  cases h : ruleB d xs ((k : Int) + 1) <;> simp [h]
theorem brokenF_nil {d : CoD} {xs : List ItD} : (brokenF d xs).length = 0 ↔ ∀ r : Nat, r < 8 → ruleB d xs ((r : Int) + 1) = true := by
  unfold brokenF brokenN
  rw [List.length_eq_zero_iff, List.filter_eq_nil_iff]
  simp only [List.mem_map, List.mem_range, forall_exists_index, and_imp, forall_apply_eq_imp_iff₂, Bool.not_eq_true', Bool.not_eq_false]
theorem occI_pos {nm : List UInt8} {x : ItD} (h : nm ∈ x.1) : 0 < occI nm x := by
  unfold occI
  exact List.length_pos_of_mem (List.mem_filter.2 ⟨h, by simp⟩)
theorem occN_cons (x : ItD) (xs : List ItD) (nm : List UInt8) : occN (x :: xs) nm = occI nm x + occN xs nm := rfl
theorem occN_pos {xs : List ItD} {x : ItD} {nm : List UInt8} (hx : x ∈ xs) (hn : nm ∈ x.1) : 0 < occN xs nm := by
  induction xs with
  | nil => simp at hx
  | cons y t ih =>
    rw [occN_cons]
    rcases List.mem_cons.1 hx with rfl | hx
    · have := occI_pos hn; omega
    · have := ih hx; omega
/-- The two ways to say that a name is repeated as it may be. -/
theorem repW_eq {d : CoD} {xs : List ItD} {x : ItD} {nm : List UInt8} (hx : x ∈ xs) (hn : nm ∈ x.1) :
    repW d xs nm = !(decide (d.2.2.1 < (occN xs nm : Int)) || (decide (1 < (occN xs nm : Int)) && ((occC xs nm : Int) == 0))) := by
  have h := occN_pos hx hn
  unfold repW
  generalize occN xs nm = a at h ⊢
  generalize occC xs nm = b
  rw [Bool.eq_iff_iff]
  simp only [Bool.and_eq_true, decide_eq_true_eq, Bool.or_eq_true, beq_iff_eq, Bool.not_eq_true', Bool.or_eq_false_iff, decide_eq_false_iff_not, Bool.and_eq_false_iff, beq_eq_false_iff_ne]
  omega
theorem jumpN_eq (d : CoD) {x : ItD} (h : 0 < x.1.length) (nm : List UInt8) :
    jumpN d x nm = !(combI x && (decide (findF d.1 nm < 0) || !((d.1.getD (findF d.1 nm).toNat noEl).2.1 == 0))) := by
  unfold jumpN jump0 combI
  generalize (d.1.getD (findF d.1 nm).toNat noEl).2.1 = z
  generalize findF d.1 nm = y
  generalize x.1.length = n at h ⊢
  rw [Bool.eq_iff_iff]
  simp only [Bool.and_eq_true, decide_eq_true_eq, Bool.or_eq_true, beq_iff_eq, Bool.not_eq_true', Bool.or_eq_false_iff, decide_eq_false_iff_not, Bool.and_eq_false_iff, Bool.not_eq_false']
  omega
theorem threeN_eq {xs : List ItD} (h : itemsB xs = true) : threeN xs = (xs.filter (fun x => (x.1.length : Int) == 3)).length := by
  unfold threeN
  congr 1
  refine List.filter_congr (fun x hx => ?_)
  simp only [itemsB, Bool.and_eq_true, List.all_eq_true] at h
  have := itemB_ok (h.1 x hx)
  rw [Bool.eq_iff_iff]
  simp only [decide_eq_true_eq, beq_iff_eq]
  omega
/-- Late as the rule says. -/
def lateD (n i : Nat) (x : ItD) : ItD := (x.1, x.2.1, decide ((n : Int) ≤ 2 * (i : Int)))
def lateL (xs : List ItD) : List ItD := (List.range xs.length).map (fun i => lateD xs.length i (xs.getD i noItem))
theorem lateL_len (xs : List ItD) : (lateL xs).length = xs.length := by simp [lateL]
/-! ### Step by step -/
def occP (nm : List UInt8) (x : ItD) (j : Nat) : Nat := ((x.1.take j).filter (fun o => o == nm)).length
theorem occP_succ (nm : List UInt8) {x : ItD} {j : Nat} {o : List UInt8} (h : x.1[j]? = some o) : occP nm x (j + 1) = occP nm x j + if o == nm then 1 else 0 := by
  obtain ⟨hj, rfl⟩ := List.getElem?_eq_some_iff.1 h
  unfold occP
  rw [List.take_succ_eq_append_getElem hj, List.filter_append, List.length_append]
  cases hx : x.1[j] == nm <;> simp [hx]
theorem occP_all (nm : List UInt8) (x : ItD) : occP nm x x.1.length = occI nm x := by
  unfold occP occI
  rw [List.take_length]
theorem occP_le (nm : List UInt8) (x : ItD) (j : Nat) : occP nm x j ≤ x.1.length := by
  unfold occP
  have h1 := List.length_filter_le (fun o => o == nm) (x.1.take j)
  rw [List.length_take] at h1
  omega
theorem sum_map_succ {α : Type} (f : α → Nat) {xs : List α} {k : Nat} {x : α} (h : xs[k]? = some x) : ((xs.take (k + 1)).map f).sum = ((xs.take k).map f).sum + f x := by
  obtain ⟨hk, rfl⟩ := List.getElem?_eq_some_iff.1 h
  rw [List.take_succ_eq_append_getElem hk, List.map_append, List.sum_append]
  simp
theorem sum_map_le {α : Type} (f : α → Nat) (b : Nat) : ∀ (xs : List α), (∀ x ∈ xs, f x ≤ b) → (xs.map f).sum ≤ b * xs.length
  | [], _ => by simp
  | x :: t, h => by
    have h1 := h x (by simp)
    have h2 := sum_map_le f b t (fun y hy => h y (by simp [hy]))
    rw [List.map_cons, List.sum_cons, List.length_cons, Nat.mul_succ]
    omega
theorem occN_succ (nm : List UInt8) {xs : List ItD} {k : Nat} {x : ItD} (h : xs[k]? = some x) : occN (xs.take (k + 1)) nm = occN (xs.take k) nm + occI nm x := sum_map_succ _ h
theorem occC_succ (nm : List UInt8) {xs : List ItD} {k : Nat} {x : ItD} (h : xs[k]? = some x) : occC (xs.take (k + 1)) nm = occC (xs.take k) nm + if combI x then occI nm x else 0 := sum_map_succ (fun x => if combI x then occI nm x else 0) h
theorem occ_le {xs : List ItD} (h : ∀ x ∈ xs, x.1.length ≤ 3) (nm : List UInt8) (k : Nat) : occN (xs.take k) nm ≤ 3 * k ∧ occC (xs.take k) nm ≤ 3 * k := by
  have hl : (xs.take k).length ≤ k := by rw [List.length_take]; omega
  have hm : ∀ x ∈ xs.take k, occI nm x ≤ 3 := fun x hx => by
    have h1 := h x (List.mem_of_mem_take hx)
    have h2 := occP_le nm x x.1.length
    rw [occP_all] at h2
    omega
  have h1 := sum_map_le (occI nm) 3 (xs.take k) hm
  have h2 := sum_map_le (fun x => if combI x then occI nm x else 0) 3 (xs.take k) (fun x hx => by
    have := hm x hx
    show (if combI x then occI nm x else 0) ≤ 3
    split <;> omega)
  have h3 : 3 * (xs.take k).length ≤ 3 * k := Nat.mul_le_mul_left 3 hl
  exact ⟨Nat.le_trans h1 h3, Nat.le_trans h2 h3⟩
end Go.Proofs.YtiohjcadmahkgaaGreat
