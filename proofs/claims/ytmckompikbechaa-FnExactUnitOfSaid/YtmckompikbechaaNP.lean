/- Names, items, sheets: what is valid, in plain words. -/
import Derived.Test.YtmckompikbechaaNA
namespace Go.Proofs.Ytmckompikbechaa
set_option linter.unusedVariables false

def nameByte (b : UInt8) : Bool := (decide (65 ≤ b.toNat) && decide (b.toNat ≤ 90)) || (decide (48 ≤ b.toNat) && decide (b.toNat ≤ 57))
def nameB (s : List UInt8) : Bool := s.all nameByte && inB 1 5 s.length
def itemB (d : ItD) : Bool := d.1.all nameB && inB 1 3 d.1.length && ((d.2.1.length : Int) == (d.1.length : Int)) && d.2.1.all (inB 0 3)
def itemsB (l : List ItD) : Bool := l.all itemB && decide ((l.length : Int) ≤ 14)
def cleanB (l : List ItD) : Bool := itemsB l && l.all (fun it => it.2.1.all (inB 0 0))
abbrev ShD := List ItD × List (List (List Int)) × List RvD
def namesAt (l : List ItD) (i : Nat) : List (List UInt8) := (l.getD i ([], [], false)).1
def rowB (l : List ItD) (votes : List (List Int)) (i : Nat) : Bool := (((votes.getD i []).length : Int) == ((namesAt l i).length : Int)) && (votes.getD i []).all (inB (-1) 3)
def votesB (l : List ItD) (votes : List (List Int)) : Bool := ((votes.length : Int) == (l.length : Int)) && (List.range l.length).all (rowB l votes)
def hasName (l : List ItD) (item name : Int) : Bool := inB 0 ((l.length : Int) - 1) item && inB 0 (((namesAt l item.toNat).length : Int) - 1) name
def reviewB (l : List ItD) (r : RvD) : Bool := hasName l r.1 r.2.1 && inB 0 3 r.2.2
def sheetB (s : ShD) : Bool := cleanB s.1 && ((s.2.1.length : Int) == 3) && decide ((s.2.2.length : Int) ≤ 20) && s.2.1.all (votesB s.1) && s.2.2.all (reviewB s.1)
def rvAt (i k : Nat) (r : RvD) : Bool := (r.1 == (i : Int)) && (r.2.1 == (k : Int))
def voteAt (v : List (List Int)) (item name : Nat) : Int := (v.getD item []).getD name 0
def countV (vs : List (List (List Int))) (item name : Nat) (mark : Int) : Nat := (vs.filter (fun v => voteAt v item name == mark)).length

theorem allL_step {α : Type} {f : α → Bool} {xs : List α} {k : Nat} {x : α} (hx : xs[k]? = some x) (h : (xs.take k).all f = true) (h1 : f x = true) : (xs.take (k + 1)).all f = true := by
  obtain ⟨hk, rfl⟩ := List.getElem?_eq_some_iff.1 hx
  rw [List.take_succ_eq_append_getElem hk, List.all_append, h]
  simpa using h1
theorem allL_stop {α : Type} {f : α → Bool} {xs : List α} {k : Nat} {x : α} (hx : xs[k]? = some x) (h1 : f x = false) : xs.all f = false := by
  rw [List.all_eq_false]
  exact ⟨x, List.mem_of_getElem? hx, by simp [h1]⟩
theorem allL_end {α : Type} {f : α → Bool} {xs : List α} {k : Nat} (hk : xs.length ≤ k) (h : (xs.take k).all f = true) : xs.all f = true := by
  rwa [List.take_of_length_le hk] at h
theorem range_step {f : Nat → Bool} {k : Nat} (h : (List.range k).all f = true) (h1 : f k = true) : (List.range (k + 1)).all f = true := by
  rw [List.range_succ, List.all_append, h]
  simpa using h1
theorem range_stop {f : Nat → Bool} {k n : Nat} (hk : k < n) (h1 : f k = false) : (List.range n).all f = false := by
  rw [List.all_eq_false]
  exact ⟨k, List.mem_range.2 hk, by simp [h1]⟩
theorem namesAt_some {l : List ItD} {i : Nat} {x : ItD} (h : l[i]? = some x) : namesAt l i = x.1 := by
  unfold namesAt
  rw [List.getD_eq_getElem?_getD, h]; rfl
theorem itemB_ok {d : ItD} (h : itemB d = true) : 1 ≤ d.1.length ∧ d.1.length ≤ 3 ∧ d.2.1.length = d.1.length := by
  simp [itemB, inB] at h
  omega
theorem sheetB_votes {s : ShD} (h : sheetB s = true) : s.2.1.length = 3 := by
  simp [sheetB] at h
  omega
theorem sheetB_rows {s : ShD} (h : sheetB s = true) {v : List (List Int)} (hv : v ∈ s.2.1) : v.length = s.1.length ∧ ∀ i, i < s.1.length → (v.getD i []).length = (namesAt s.1 i).length := by
  simp only [sheetB, Bool.and_eq_true, List.all_eq_true] at h
  have h1 := h.1.2 v hv
  simp only [votesB, Bool.and_eq_true, List.all_eq_true, beq_iff_eq, rowB, List.mem_range] at h1
  refine ⟨by omega, fun i hi => ?_⟩
  have := (h1.2 i hi).1
  omega
theorem hasName_ok {l : List ItD} {item name : Int} (h : hasName l item name = true) : ∃ i k : Nat, item = i ∧ name = k ∧ i < l.length ∧ k < (namesAt l i).length := by
  simp only [hasName, inB, Bool.and_eq_true, decide_eq_true_eq] at h
  obtain ⟨⟨h1, h2⟩, h3, h4⟩ := h
  exact ⟨item.toNat, name.toNat, by omega, by omega, by omega, by omega⟩
/-- The call of the votes. -/
def voteF (vs : List (List (List Int))) (i k : Nat) : Int := if 2 ≤ countV vs i k 0 then 0 else if 2 ≤ countV vs i k 1 then 1 else if 2 ≤ countV vs i k 2 then 2 else if 2 ≤ countV vs i k 3 then 3 else -1
def voteUp (vs : List (List (List Int))) (i k : Nat) : Nat → Int
  | 0 => -1
  | q + 1 => if 2 ≤ countV vs i k (q : Int) then (q : Int) else voteUp vs i k q
/-- The last review's mark, or what was said before. -/
def revF (l : List RvD) (i k : Nat) (q : Int) : Int := match l.reverse.find? (rvAt i k) with
  | some r => r.2.2
  | none => q
def callF (s : ShD) (i k : Nat) : Int := revF s.2.2 i k (voteF s.2.1 i k)
def callOfF (s : ShD) (item name : Int) : Int × Bool := if sheetB s && hasName s.1 item name && decide (0 ≤ callF s item.toNat name.toNat) then (callF s item.toNat name.toNat, true) else (0, false)
theorem countV_succ {vs : List (List (List Int))} {j : Nat} {v : List (List Int)} (h : vs[j]? = some v) (i k : Nat) (m : Int) : countV (vs.take (j + 1)) i k m = countV (vs.take j) i k m + (if voteAt v i k == m then 1 else 0) := by
  obtain ⟨hj, rfl⟩ := List.getElem?_eq_some_iff.1 h
  unfold countV
  rw [List.take_succ_eq_append_getElem hj, List.filter_append, List.length_append]
  congr 1
  by_cases hm : voteAt vs[j] i k == m <;> simp [hm]
theorem countV_le (vs : List (List (List Int))) (i k : Nat) (m : Int) : countV vs i k m ≤ vs.length := List.length_filter_le ..
theorem countV_sum (vs : List (List (List Int))) (i k : Nat) : countV vs i k 0 + countV vs i k 1 + countV vs i k 2 + countV vs i k 3 ≤ vs.length := by
  induction vs with
  | nil => simp [countV]
  | cons v t ih =>
    have h : ∀ m, countV (v :: t) i k m = (if voteAt v i k == m then 1 else 0) + countV t i k m := by
      intro m
      unfold countV
      rw [List.filter_cons]
      split <;> simp [*]
      omega
    rw [h 0, h 1, h 2, h 3]
    simp only [beq_iff_eq, List.length_cons]
    repeat' split
    all_goals omega
theorem voteUp_four {vs : List (List (List Int))} (hl : vs.length = 3) (i k : Nat) : voteUp vs i k 4 = voteF vs i k := by
  have h := countV_sum vs i k
  have e : voteUp vs i k 4 = if 2 ≤ countV vs i k 3 then 3 else if 2 ≤ countV vs i k 2 then 2 else if 2 ≤ countV vs i k 1 then 1 else if 2 ≤ countV vs i k 0 then 0 else -1 := rfl
  rw [e]
  unfold voteF
  repeat' split
  all_goals first | rfl | omega
theorem revF_step {l : List RvD} {j : Nat} {r : RvD} (h : l[j]? = some r) (i k : Nat) (q : Int) : revF (l.take (j + 1)) i k q = if rvAt i k r = true then r.2.2 else revF (l.take j) i k q := by
  obtain ⟨hj, rfl⟩ := List.getElem?_eq_some_iff.1 h
  unfold revF
  rw [List.take_succ_eq_append_getElem hj, List.reverse_append]
  simp only [List.reverse_cons, List.reverse_nil, List.nil_append, List.singleton_append, List.find?_cons]
  cases rvAt i k l[j] <;> simp
end Go.Proofs.Ytmckompikbechaa
