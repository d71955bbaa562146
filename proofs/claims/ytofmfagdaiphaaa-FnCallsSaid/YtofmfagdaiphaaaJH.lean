/- Plain laws on reviews and votes: a review decides its call; a vote is taken back; a sheet without votes is open everywhere. -/
import Derived.Test.YtofmfagdaiphaaaSJ
import Derived.Test.YtofmfagdaiphaaaOQ
namespace Go.Proofs.Ytofmfagdaiphaaa
open Go.RowKit Go.Sort
set_option linter.unusedVariables false

theorem inB_rgS {a b n : Int} : inB a b n = true ↔ a ≤ n ∧ n ≤ b := by simp [inB]
/-- A review decides its call. -/
theorem review_law {d : ShD} {r : RvD} (h : (addRF d r).2 = true) : (addRF d r).1 = addRS d r ∧ sheetB (addRS d r) = true ∧ callOfF (addRS d r) r.1 r.2.1 = (r.2.2, true) := by
  unfold addRF at *
  split at h
  · next hc =>
    rw [if_pos hc]
    rw [Bool.and_eq_true] at hc
    have hs := hc.2
    have hr : reviewB d.1 r = true := by
      have h2 := hs
      simp only [sheetB, Bool.and_eq_true, List.all_eq_true] at h2
      exact h2.2 r (by show r ∈ d.2.2 ++ [r]; simp)
    refine ⟨rfl, hs, ?_⟩
    simp only [reviewB, Bool.and_eq_true] at hr
    obtain ⟨i, k, e1, e2, -, -⟩ := hasName_ok hr.1
    have hm := inB_rgS.1 hr.2
    have hcall : callF (addRS d r) r.1.toNat r.2.1.toNat = r.2.2 := by
      unfold callF revF
      show (match (d.2.2 ++ [r]).reverse.find? (rvAt r.1.toNat r.2.1.toNat) with | some q => q.2.2 | none => _) = r.2.2
      have hv : rvAt r.1.toNat r.2.1.toNat r = true := by simp [rvAt, e1, e2]
      rw [List.reverse_append]
      simp [hv]
    unfold callOfF
    rw [hcall, hs, show hasName (addRS d r).1 r.1 r.2.1 = true from hr.1]
    simp [hm.1]
  · simp at h
theorem setV_at {vs : List (List (List Int))} {cl : Nat} {v : List (List Int)} (hv : vs[cl]? = some v) (i k : Nat) (m : Int) : setV vs cl i k m = vs.set cl (v.set i ((v.getD i []).set k m)) := by
  unfold setV
  rw [List.getD_eq_getElem?_getD, hv, Option.getD_some]
theorem set_self {α : Type} {xs : List α} {k : Nat} {x : α} (h : xs[k]? = some x) : xs.set k x = xs := by
  apply List.ext_getElem?
  intro j
  rw [List.getElem?_set]
  split
  · next e =>
    subst e
    split
    · exact h.symm
    · next hl => rw [List.getElem?_eq_none (by omega)] at h; cases h
  · rfl
/-- A vote stored and taken back. -/
theorem setV_back {vs : List (List (List Int))} {cl i k : Nat} {v : List (List Int)} {x : List Int} (hv : vs[cl]? = some v) (hx : v[i]? = some x) (hk : k < x.length) (m : Int) : setV (setV vs cl i k m) cl i k (x.getD k 0) = vs := by
  have hcl := (List.getElem?_eq_some_iff.1 hv).1
  have hi := (List.getElem?_eq_some_iff.1 hx).1
  have ex : v.getD i [] = x := by rw [List.getD_eq_getElem?_getD, hx, Option.getD_some]
  rw [setV_at hv, ex]
  have hv2 : (vs.set cl (v.set i (x.set k m)))[cl]? = some (v.set i (x.set k m)) := by rw [List.getElem?_set_self hcl]
  have e2 : (v.set i (x.set k m)).getD i [] = x.set k m := by rw [List.getD_eq_getElem?_getD, List.getElem?_set_self hi, Option.getD_some]
  rw [setV_at hv2, e2, List.set_set, List.set_set, List.set_set]
  have e3 : x.set k (x.getD k 0) = x := set_self (by rw [List.getD_eq_getElem?_getD, List.getElem?_eq_getElem hk]; rfl)
  rw [e3, set_self hx, set_self hv]
theorem sheetB_setV {d : ShD} (h : sheetB d = true) {cl i k : Nat} {m : Int} (hm : inB (-1) 3 m = true) : sheetB (d.1, setV d.2.1 cl i k m, d.2.2) = true := by
  cases hv : d.2.1[cl]? with
  | none =>
    have : setV d.2.1 cl i k m = d.2.1 := by
      unfold setV
      rw [List.set_eq_of_length_le (by rw [List.getElem?_eq_none_iff] at hv; exact hv)]
    rw [this]; exact h
  | some v =>
    rw [setV_at hv]
    simp only [sheetB, Bool.and_eq_true, List.all_eq_true] at h ⊢
    obtain ⟨⟨⟨⟨h1, h2⟩, h3⟩, h4⟩, h5⟩ := h
    refine ⟨⟨⟨⟨h1, by simpa using h2⟩, h3⟩, fun u hu => ?_⟩, h5⟩
    rcases List.mem_or_eq_of_mem_set hu with e | e
    · exact h4 u e
    · subst e
      have hvv := h4 v (List.mem_of_getElem? hv)
      simp only [votesB, Bool.and_eq_true, List.all_eq_true] at hvv ⊢
      refine ⟨by simpa using hvv.1, fun j hj => ?_⟩
      have hr := hvv.2 j hj
      simp only [rowB, Bool.and_eq_true, List.all_eq_true] at hr ⊢
      by_cases e : j = i
      · subst e
        by_cases hl : j < v.length
        · have e2 : (v.set j ((v.getD j []).set k m)).getD j [] = (v.getD j []).set k m := by rw [List.getD_eq_getElem?_getD, List.getElem?_set_self hl, Option.getD_some]
          rw [e2]
          refine ⟨by simpa using hr.1, fun z hz => ?_⟩
          rcases List.mem_or_eq_of_mem_set hz with e3 | e3
          · exact hr.2 z e3
          · subst e3; exact hm
        · rw [List.set_eq_of_length_le (by omega)]; exact hr
      · have e2 : (v.set i ((v.getD i []).set k m)).getD j [] = v.getD j [] := by rw [List.getD_eq_getElem?_getD, List.getElem?_set_ne (Ne.symm e), ← List.getD_eq_getElem?_getD]
        rw [e2]; exact hr
/-- A vote called back. -/
theorem vote_law {d : ShD} {y1 y2 y3 y4 : Int} (h : (voteCF d y1 y2 y3 y4).2 = true) : ∃ cl i k : Nat, ∃ v x, y1 = cl ∧ y2 = i ∧ y3 = k ∧ cl < 3 ∧ d.2.1[cl]? = some v ∧ v[i]? = some x ∧ k < x.length ∧ sheetB d = true ∧
    voteCF (voteCF d y1 y2 y3 y4).1 y1 y2 y3 (x.getD k 0) = (d, true) := by
  unfold voteCF at h ⊢
  split at h
  · next hc =>
    rw [if_pos hc]
    simp only [Bool.and_eq_true] at hc
    obtain ⟨⟨⟨hs, h1⟩, h2⟩, h3⟩ := hc
    have b1 := inB_rgS.1 h1
    obtain ⟨i, k, rfl, rfl, hi, hk⟩ := hasName_ok h2
    have h3v := sheetB_votes hs
    obtain ⟨cl, rfl⟩ : ∃ cl : Nat, y1 = cl := ⟨y1.toNat, by omega⟩
    have hcl : cl < 3 := by omega
    have hv := List.getElem?_eq_getElem (l := d.2.1) (i := cl) (by omega)
    have hrow := sheetB_rows hs (List.mem_of_getElem? hv)
    generalize d.2.1[cl]'(by omega) = v at *
    have hx := List.getElem?_eq_getElem (l := v) (i := i) (by omega)
    have hxl := hrow.2 i hi
    rw [List.getD_eq_getElem?_getD, hx, Option.getD_some] at hxl
    generalize v[i]'(by omega) = x at *
    have hkx : k < x.length := by omega
    refine ⟨cl, i, k, v, x, rfl, rfl, rfl, hcl, hv, hx, hkx, hs, ?_⟩
    have old : inB (-1) 3 (x.getD k 0) = true := by
      have h2 := hs
      simp only [sheetB, Bool.and_eq_true, List.all_eq_true] at h2
      have hvv := h2.1.2 v (List.mem_of_getElem? hv)
      simp only [votesB, Bool.and_eq_true, List.all_eq_true] at hvv
      have hr := hvv.2 i (by simpa using hi)
      simp only [rowB, Bool.and_eq_true, List.all_eq_true] at hr
      rw [List.getD_eq_getElem?_getD, hx, Option.getD_some] at hr
      refine hr.2 _ ?_
      rw [List.getD_eq_getElem?_getD, List.getElem?_eq_getElem hkx]
      exact List.getElem_mem hkx
    have hs2 := sheetB_setV hs (cl := cl) (i := i) (k := k) h3
    rw [if_pos (by simp only [Bool.and_eq_true]; exact ⟨⟨⟨hs2, h1⟩, h2⟩, old⟩)]
    show ((d.1, setV (setV d.2.1 cl i k y4) cl i k (x.getD k 0), d.2.2), true) = (d, true)
    rw [setV_back hv hx hkx]
  · simp at h
/-! ### A sheet without votes -/
theorem voteAt_new (xs : List ItD) (i k : Nat) (q : Int) (hi : i < xs.length) (hk : k < (namesAt xs i).length) (hq : 0 ≤ q) : countV (List.replicate 3 (votesN xs)) i k q = 0 := by
  unfold countV
  rw [List.length_eq_zero_iff, List.filter_eq_nil_iff]
  intro v hv
  obtain rfl := List.eq_of_mem_replicate hv
  have hx := List.getElem?_eq_getElem hi
  have e : voteAt (votesN xs) i k = -1 := by
    unfold voteAt votesN
    have e1 : (xs.map (fun x => List.replicate x.1.length (-1 : Int))).getD i [] = List.replicate (namesAt xs i).length (-1) := by
      rw [List.getD_eq_getElem?_getD, List.getElem?_map, hx, namesAt_some hx]; rfl
    rw [e1, List.getD_eq_getElem?_getD, List.getElem?_replicate]
    simp [hk]
  rw [e]
  simp
  omega
theorem open_new {xs : List ItD} {i k : Nat} (hi : i < xs.length) (hk : k < (namesAt xs i).length) : openP ((xs, List.replicate 3 (votesN xs), []) : ShD) i k = true := by
  have e : voteF (List.replicate 3 (votesN xs)) i k = -1 := by
    unfold voteF
    rw [voteAt_new xs i k 0 hi hk (by omega), voteAt_new xs i k 1 hi hk (by omega), voteAt_new xs i k 2 hi hk (by omega), voteAt_new xs i k 3 hi hk (by omega)]
    simp
  show decide (revF [] i k (voteF (List.replicate 3 (votesN xs)) i k) < 0) = true
  rw [e]
  rfl
theorem rowP_all {P : Nat → Nat → Bool} {i : Nat} : ∀ n, (∀ k, k < n → P i k = true) → (rowP P i n).length = n
  | 0, _ => rfl
  | n + 1, h => by
    rw [rowP_succ, List.length_append, rowP_all n (fun k hk => h k (by omega)), h n (by omega)]
    rfl
def namesSum (xs : List ItD) : Nat → Nat
  | 0 => 0
  | n + 1 => namesSum xs n + (namesAt xs n).length
theorem pairsN_all {P : Nat → Nat → Bool} {xs : List ItD} : ∀ n, (∀ i, i < n → ∀ k, k < (namesAt xs i).length → P i k = true) → (pairsN P xs n).length = namesSum xs n
  | 0, _ => rfl
  | n + 1, h => by
    rw [pairsN_succ, List.length_append, pairsN_all n (fun i hi => h i (by omega)), rowP_all _ (h n (by omega))]
    rfl
theorem namesSum_le {xs : List ItD} (h : cleanB xs = true) : ∀ n, namesSum xs n ≤ 3 * n
  | 0 => Nat.le_refl _
  | n + 1 => by
    have := namesSum_le h n
    have := names_three (cleanB_items h) n
    show namesSum xs n + _ ≤ _
    omega
theorem sheetB_new {xs : List ItD} (h : cleanB xs = true) : sheetB ((xs, List.replicate 3 (votesN xs), []) : ShD) = true := by
  simp only [sheetB, Bool.and_eq_true, List.all_eq_true]
  refine ⟨⟨⟨⟨h, by simp⟩, by simp⟩, fun v hv => ?_⟩, by simp⟩
  obtain rfl := List.eq_of_mem_replicate hv
  simp only [votesB, Bool.and_eq_true, List.all_eq_true]
  refine ⟨by simp [votesN], fun i hi => ?_⟩
  have hi' : i < xs.length := by simpa using hi
  have hx := List.getElem?_eq_getElem hi'
  have e1 : (votesN xs).getD i [] = List.replicate (namesAt xs i).length (-1) := by
    unfold votesN
    rw [List.getD_eq_getElem?_getD, List.getElem?_map, hx, namesAt_some hx]; rfl
  simp only [rowB, Bool.and_eq_true, List.all_eq_true]
  rw [e1]
  refine ⟨by simp, fun z hz => ?_⟩
  obtain rfl := List.eq_of_mem_replicate hz
  decide
theorem new_law {xs : List ItD} (h : (newF xs).2 = true) : (newF xs).1 = (xs, List.replicate 3 (votesN xs), []) ∧ (openCallsF (newF xs).1).2 = true ∧ (openCallsF (newF xs).1).1.length = namesSum xs xs.length ∧ cleanB xs = true := by
  unfold newF at *
  split at h
  · next hc =>
    rw [if_pos hc]
    refine ⟨rfl, ?_, ?_, hc⟩
    · show (openCallsF (xs, List.replicate 3 (votesN xs), [])).2 = true
      unfold openCallsF
      rw [if_pos (sheetB_new hc)]
    · show (openCallsF (xs, List.replicate 3 (votesN xs), [])).1.length = _
      unfold openCallsF
      rw [if_pos (sheetB_new hc)]
      exact pairsN_all xs.length (fun i hi k hk => open_new hi hk)
  · simp at h
end Go.Proofs.Ytofmfagdaiphaaa
