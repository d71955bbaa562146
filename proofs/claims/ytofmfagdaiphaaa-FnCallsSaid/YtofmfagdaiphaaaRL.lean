/- Families of items; FamilyBases. -/
import Derived.Test.YtofmfagdaiphaaaRK
namespace Go.Proofs.Ytofmfagdaiphaaa
open Go.RowKit Go.Sort
set_option linter.unusedVariables false

theorem made_zeroR (n : Nat) : (madeCells #[Value.int .i64 0] n).toList = (List.replicate n (0 : Int)).map (Value.int .i64) := by
  have h := part_made (List.replicate n 0) n (by simp)
  rw [h]
  congr 1
  simp [part]
theorem kI_of {w : World} {lo n c : Nat} {A : Option Addr} {zs : List Int} (h : OwnI 3 w lo A n c zs) : kI.fr w lo w.heap.size (.slice A n c) zs := by
  have hl := h.len
  subst hl
  exact ⟨A, c, rfl, h.fr⟩
theorem kI_nil (w : World) (lo hi : Nat) (h : hi ≤ w.heap.size) : kI.fr w lo hi (.slice none 0 0) [] := ⟨none, 0, rfl, OwnI.nil, h, fun p hp => by cases hp⟩
def familyF (d : CoD) (x : ItD) : Int := (d.1.getD (findF d.1 (x.1.getD 0 [])).toNat noEl).2.1
theorem familyF_bd {d : CoD} (hd : CodeOk d) (x : ItD) : 0 ≤ familyF d x ∧ familyF d x ≤ 4 := by
  unfold familyF
  cases hx : d.1[(findF d.1 (x.1.getD 0 [])).toNat]? with
  | none => rw [List.getD_eq_getElem?_getD, hx]; exact ⟨by decide, by decide⟩
  | some y => rw [getD_some hx]; have := elB_ok (hd.els _ _ hx); omega
def famN (d : CoD) (xs : List ItD) : Nat → List Int
  | 0 => List.replicate 5 0
  | k + 1 => (famN d xs k).set (familyF d (xs.getD k noItem)).toNat ((famN d xs k).getD (familyF d (xs.getD k noItem)).toNat 0 + baseF d xs k)
theorem famN_len (d : CoD) (xs : List ItD) (k : Nat) : (famN d xs k).length = 5 := by
  induction k with
  | zero => rfl
  | succ k ih => unfold famN; rw [List.length_set]; exact ih
theorem famN_bd {d : CoD} (hd : CodeOk d) {xs : List ItD} (ho : LsOk d xs) (k i : Nat) : 0 ≤ (famN d xs k).getD i 0 ∧ (famN d xs k).getD i 0 ≤ 10000 * k := by
  induction k generalizing i with
  | zero =>
    unfold famN
    have : (List.replicate 5 (0 : Int)).getD i 0 = 0 := by
      rw [List.getD_eq_getElem?_getD, List.getElem?_replicate]; split <;> rfl
    omega
  | succ k ih =>
    have hb := baseF_bd hd ho k
    unfold famN
    rw [List.getD_eq_getElem?_getD, List.getElem?_set]
    split
    · split
      · have := ih (familyF d (xs.getD k noItem)).toNat
        simp only [Option.getD_some]
        omega
      · simp only [Option.getD_none]; omega
    · have := ih i
      rw [List.getD_eq_getElem?_getD] at this
      omega
def famLaw (d : CoD) (xs : List ItD) : List Int × Bool := if codeB d && itemsB xs && knownB d.1 xs then (famN d xs xs.length, true) else ([], false)
theorem basesF_at {d : CoD} {xs : List ItD} {k : Nat} (h : k < xs.length) : (basesF d xs).getD k 0 = baseF d xs k := by
  unfold basesF basesN
  rw [List.getD_eq_getElem?_getD, List.getElem?_map, List.getElem?_range h]
  rfl

end Go.Proofs.Ytofmfagdaiphaaa
