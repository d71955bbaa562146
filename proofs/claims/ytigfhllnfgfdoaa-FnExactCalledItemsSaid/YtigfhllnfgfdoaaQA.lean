/- Items with their calls: the plain part, and the program's function. -/
import Derived.Test.YtigfhllnfgfdoaaOZ
import Derived.Test.YtigfhllnfgfdoaaOQ
namespace Go.Proofs.Ytigfhllnfgfdoaa
open Go.RowKit Go.Sort
set_option linter.unusedVariables false

def calIt (d : ShD) (i : Nat) (x : ItD) : ItD := (x.1, (List.range x.2.1.length).map (callF d i), x.2.2)
def calN (d : ShD) (k : Nat) : List ItD := (d.1.mapIdx (calIt d)).take k ++ d.1.drop k
def calF (d : ShD) : List ItD := d.1.mapIdx (calIt d)
theorem calN_zero (d : ShD) : calN d 0 = d.1 := by simp [calN]
theorem calN_all (d : ShD) (k : Nat) (h : d.1.length ≤ k) : calN d k = calF d := by
  unfold calN calF
  rw [List.take_of_length_le (by simpa using h), List.drop_eq_nil_of_le h, List.append_nil]
theorem calN_len (d : ShD) (k : Nat) : (calN d k).length = d.1.length := by simp [calN]; omega
theorem calN_at (d : ShD) (k : Nat) (h : k < d.1.length) : (calN d k)[k]? = d.1[k]? := by
  have e : ((d.1.mapIdx (calIt d)).take k).length = k := by simp; omega
  unfold calN
  rw [List.getElem?_append_right (by omega), e, Nat.sub_self, List.getElem?_drop, Nat.add_zero]
theorem calN_set (d : ShD) (k : Nat) (x : ItD) (hx : d.1[k]? = some x) : (calN d k).set k (calIt d k x) = calN d (k + 1) := by
  obtain ⟨hk, rfl⟩ := List.getElem?_eq_some_iff.1 hx
  have e : ((d.1.mapIdx (calIt d)).take k).length = k := by simp; omega
  unfold calN
  rw [List.set_append_right _ _ (by omega), e, Nat.sub_self, List.drop_eq_getElem_cons hk, List.set_cons_zero, List.take_succ_eq_append_getElem (by simpa using hk), List.append_assoc]
  simp
def pM (d : ShD) (i : Nat) (ms : List Int) (j : Nat) : List Int := (List.range j).map (callF d i) ++ ms.drop j
theorem pM_zero (d : ShD) (i : Nat) (ms : List Int) : pM d i ms 0 = ms := by simp [pM]
theorem pM_len (d : ShD) (i : Nat) (ms : List Int) (j : Nat) (h : j ≤ ms.length) : (pM d i ms j).length = ms.length := by simp [pM]; omega
theorem pM_all (d : ShD) (i : Nat) (ms : List Int) : pM d i ms ms.length = (List.range ms.length).map (callF d i) := by simp [pM]
theorem pM_set (d : ShD) (i : Nat) (ms : List Int) (j : Nat) (h : j < ms.length) : (pM d i ms j).set j (callF d i j) = pM d i ms (j + 1) := by
  have e : ((List.range j).map (callF d i)).length = j := by simp
  unfold pM
  rw [List.set_append_right _ _ (by omega), e, Nat.sub_self, List.drop_eq_getElem_cons h, List.set_cons_zero, List.range_succ, List.map_append, List.append_assoc]
  rfl
def calledF (d : ShD) : List ItD × Bool := if sheetB d && decide ((pairs (openP d) d.1).length = 0) then (calF d, true) else ([], false)
end Go.Proofs.Ytigfhllnfgfdoaa
