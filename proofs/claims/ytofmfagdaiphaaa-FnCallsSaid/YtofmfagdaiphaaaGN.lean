/- GN: NA, NB, NC, ND, NV, NP, NK, NQ, NS in one text. -/
import Derived.Test.YtofmfagdaiphaaaGB
import Derived.Test.YtofmfagdaiphaaaGA
/- Texts, items, reviews, votes, sheets: as kinds; the texts' lists copied, weighed, compared. -/
namespace Go.Proofs.Ytofmfagdaiphaaa
open Go.RowKit Go.Sort
set_option linter.unusedVariables false

/-- The text with which the laws mark the k-th string. -/
def markD : Nat → Nat → List UInt8
  | 0, _ => []
  | f + 1, k => if k = 0 then [] else markD f (k / 10) ++ [UInt8.ofNat (48 + k % 10)]
def markT (k : Int) : List UInt8 := 109 :: (if k ≤ 0 then [48] else markD 20 k.toNat)
def kdS : Kd (List UInt8) := kdStr markT
def kdSS : Kd (List (List UInt8)) := kdList 9 kdS
/-- A truth value, as the laws mark it in a list. -/
def kdLate : Kd Bool := { kdBool with mrk := fun k _ => k % 3 == 0, cnt := fun _ => 1 }
abbrev ItD := List (List UInt8) × List Int × Bool
def kdItem : Kd ItD := kdPair kdSS (kdPair kdL kdLate)
abbrev RvD := Int × Int × Int
def kdRv : Kd RvD := kdPair kdInt (kdPair kdInt kdInt)
theorem bs_size (x : List UInt8) : (bs x).size = x.length := by simp [bs, ByteArray.size]
theorem bs_inj {x y : List UInt8} (h : bs x = bs y) : x = y := by
  unfold bs at h
  injection h with h
  exact Array.toList_inj.mpr h |> fun e => by simpa using e

theorem info_str : (Try.prog.info? 9).map (fun i => (i.zero, i.size, i.bytes)) = some (some (.string (bs [])), 1, 16) := by kernel_rfl
theorem kdSS.val1 (v : Value) : kdSS.val [v] = v := rfl
theorem kdS.zero (w : World) : kdS.own w [.string (bs [])] [] [] := ⟨⟨rfl, by simp⟩, rfl⟩
/-- A cell of a list of texts. -/
theorem LR.str {w : World} {B c : Nat} {A : Option Addr} {xs : List (List UInt8)} (h : LR kdS w B A c xs) (k : Nat) (x : List UInt8) (hx : xs[k]? = some x) : ∃ b off, A = some ⟨b, off, none⟩ ∧ b < B ∧ w.cell? ⟨b, off + k, none⟩ = some (.string (bs x)) ∧ x.length ≤ 9223372036854775807 := by
  obtain ⟨b, off, cs, rfl, hb, ⟨rfl, hl⟩, hc⟩ := h.2.2 k x hx
  refine ⟨b, off, rfl, hb, ?_, hl⟩
  have := hc 0 _ rfl
  rwa [show k * kdS.size + 0 = k from by show k * 1 + 0 = k; omega] at this

end Go.Proofs.Ytofmfagdaiphaaa

/- Items: weighed, copied, compared. -/
namespace Go.Proofs.Ytofmfagdaiphaaa
open Go.RowKit Go.Sort
set_option linter.unusedVariables false

theorem kdItem.open_ {w : World} {B : Nat} {vs : List Value} {d : ItD} (h : kdItem.rd w B vs d) : ∃ A c A' c', vs = [.slice A d.1.length c, .slice A' d.2.1.length c', .bool d.2.2] ∧ LR kdS w B A c d.1 ∧ LR kdInt w B A' c' d.2.1 := by
  obtain ⟨v1, v2, rfl, ⟨A, c, rfl, h1⟩, v3, v4, rfl, ⟨A', c', rfl, h2⟩, h3⟩ := h
  have h3 : v4 = [.bool d.2.2] := h3
  subst h3
  exact ⟨A, c, A', c', rfl, h1, h2⟩
theorem kdItem.mk_ {w : World} {B : Nat} {d : ItD} {A A' : Option Addr} {c c' : Nat} (h1 : LR kdS w B A c d.1) (h2 : LR kdInt w B A' c' d.2.1) : kdItem.rd w B [.slice A d.1.length c, .slice A' d.2.1.length c', .bool d.2.2] d :=
  ⟨[.slice A d.1.length c], [.slice A' d.2.1.length c', .bool d.2.2], rfl, ⟨A, c, rfl, h1⟩, [.slice A' d.2.1.length c'], [.bool d.2.2], rfl, ⟨A', c', rfl, h2⟩, rfl⟩
theorem kdItem.mkOwn {w : World} {d : ItD} {A A' : Option Addr} {c c' : Nat} {f1 f2 : List Nat} (h1 : LO kdS 9 w A c d.1 f1) (h2 : LO kdInt 3 w A' c' d.2.1 f2) (hd : ∀ i ∈ f1, i ∉ f2) : kdItem.own w [.slice A d.1.length c, .slice A' d.2.1.length c', .bool d.2.2] d (f1 ++ f2) := by
  have hnd : (f1 ++ f2).Nodup := by
    rw [List.nodup_append]
    exact ⟨h1.nodup, h2.nodup, fun a ha b hb e => hd a ha (e ▸ hb)⟩
  exact ⟨[.slice A d.1.length c], [.slice A' d.2.1.length c', .bool d.2.2], f1, f2, rfl, ⟨A, c, rfl, h1⟩, ⟨[.slice A' d.2.1.length c'], [.bool d.2.2], f2, [], rfl, ⟨A', c', rfl, h2⟩, ⟨rfl, rfl⟩, by simp, h2.nodup⟩, rfl, hnd⟩
theorem kdItem.val3 (a b c : Value) : kdItem.val [a, b, c] = .agg #[a, b, c] := rfl
theorem kdItem.wt_eq (d : ItD) : kdItem.wt d = kdSS.wt d.1 + kdL.wt d.2.1 := by
  show kdSS.wt d.1 + (kdL.wt d.2.1 + 0) = _
  omega

end Go.Proofs.Ytofmfagdaiphaaa

/- Lists of structs: copied, compared, weighed. -/
namespace Go.Proofs.Ytofmfagdaiphaaa
open Go.RowKit Go.Sort
set_option linter.unusedVariables false

theorem made_flat (z : Array Value) (n : Nat) : (madeCells z (n * z.size)).toList = (List.replicate n z.toList).flatten := by
  have h0 : ∀ m, (madeCells z m).toList = (List.range m).map (fun i => z[i % z.size]!) := by
    intro m
    simp [madeCells]
  rw [h0]
  induction n with
  | zero => simp
  | succ n ih =>
    rw [Nat.add_mul, Nat.one_mul, List.range_add, List.map_append, ih, List.replicate_succ', List.flatten_append]
    congr 1
    rw [List.map_map]
    simp only [List.flatten_cons, List.flatten_nil, List.append_nil]
    apply List.ext_getElem
    · simp
    · intro i h1 h2
      simp at h1
      simp only [List.getElem_map, List.getElem_range, Function.comp_apply]
      rw [Nat.mul_comm n, Nat.mul_add_mod, Nat.mod_eq_of_lt h1]
      simp [h1]

def kdItS : Kd (List ItD) := kdList 50 kdItem
def noItem : ItD := ([], [], false)
theorem info_item : (Try.prog.info? 50).map (fun i => (i.zero, i.size, i.bytes)) = some (some (.agg #[.slice none 0 0, .slice none 0 0, .bool false]), 3, 56) := by kernel_rfl
theorem kdItem.zero (w : World) : kdItem.own w [.slice none 0 0, .slice none 0 0, .bool false] noItem [] := kdItem.mkOwn (d := noItem) LO.none_ LO.none_ (by simp)
theorem LR.item {w : World} {B c : Nat} {A : Option Addr} {xs : List ItD} (h : LR kdItem w B A c xs) (k : Nat) (x : ItD) (hx : xs[k]? = some x) : ∃ b off A1 c1 A2 c2, A = some ⟨b, off, none⟩ ∧ b < B ∧ w.cell? ⟨b, off + k * 3, none⟩ = some (.slice A1 x.1.length c1) ∧ w.cell? ⟨b, off + k * 3 + 1, none⟩ = some (.slice A2 x.2.1.length c2) ∧ w.cell? ⟨b, off + k * 3 + 2, none⟩ = some (.bool x.2.2) ∧ LR kdS w B A1 c1 x.1 ∧ LR kdInt w B A2 c2 x.2.1 := by
  obtain ⟨b, off, cs, rfl, hb, hr, hc⟩ := h.2.2 k x hx
  obtain ⟨A1, c1, A2, c2, rfl, h1, h2⟩ := kdItem.open_ hr
  exact ⟨b, off, A1, c1, A2, c2, rfl, hb, hc 0 _ rfl, hc 1 _ rfl, hc 2 _ rfl, h1, h2⟩

end Go.Proofs.Ytofmfagdaiphaaa

/- Reviews, and lists of them. -/
namespace Go.Proofs.Ytofmfagdaiphaaa
open Go.RowKit Go.Sort
set_option linter.unusedVariables false

theorem kdRv.open_ {w : World} {B : Nat} {vs : List Value} {d : RvD} (h : kdRv.rd w B vs d) : vs = [.int .i64 d.1, .int .i64 d.2.1, .int .i64 d.2.2] := by
  obtain ⟨v1, v2, rfl, h1, v3, v4, rfl, h2, h3⟩ := h
  have h1 : v1 = [.int .i64 d.1] := h1
  have h2 : v3 = [.int .i64 d.2.1] := h2
  have h3 : v4 = [.int .i64 d.2.2] := h3
  subst h1 h2 h3
  rfl
theorem kdRv.mk_ (w : World) (B : Nat) (d : RvD) : kdRv.rd w B [.int .i64 d.1, .int .i64 d.2.1, .int .i64 d.2.2] d :=
  ⟨[.int .i64 d.1], [.int .i64 d.2.1, .int .i64 d.2.2], rfl, rfl, [.int .i64 d.2.1], [.int .i64 d.2.2], rfl, rfl, rfl⟩
theorem kdRv.mkOwn (w : World) (d : RvD) : kdRv.own w [.int .i64 d.1, .int .i64 d.2.1, .int .i64 d.2.2] d [] :=
  ⟨[.int .i64 d.1], [.int .i64 d.2.1, .int .i64 d.2.2], [], [], rfl, ⟨rfl, rfl⟩, ⟨[.int .i64 d.2.1], [.int .i64 d.2.2], [], [], rfl, ⟨rfl, rfl⟩, ⟨rfl, rfl⟩, rfl, by simp⟩, rfl, by simp⟩
theorem kdRv.val3 (a b c : Value) : kdRv.val [a, b, c] = .agg #[a, b, c] := rfl
def kdRvS : Kd (List RvD) := kdList 30 kdRv
def noReview : RvD := (0, 0, 0)
theorem info_review : (Try.prog.info? 30).map (fun i => (i.zero, i.size, i.bytes)) = some (some (.agg #[.int .i64 0, .int .i64 0, .int .i64 0]), 3, 24) := by kernel_rfl
theorem kdRv.zero (w : World) : kdRv.own w [.int .i64 0, .int .i64 0, .int .i64 0] noReview [] := kdRv.mkOwn w noReview
theorem LR.review {w : World} {B c : Nat} {A : Option Addr} {xs : List RvD} (h : LR kdRv w B A c xs) (k : Nat) (x : RvD) (hx : xs[k]? = some x) : ∃ b off, A = some ⟨b, off, none⟩ ∧ b < B ∧ w.cell? ⟨b, off + k * 3, none⟩ = some (.int .i64 x.1) ∧ w.cell? ⟨b, off + k * 3 + 1, none⟩ = some (.int .i64 x.2.1) ∧ w.cell? ⟨b, off + k * 3 + 2, none⟩ = some (.int .i64 x.2.2) := by
  obtain ⟨b, off, cs, rfl, hb, hr, hc⟩ := h.2.2 k x hx
  obtain rfl := kdRv.open_ hr
  exact ⟨b, off, rfl, hb, hc 0 _ rfl, hc 1 _ rfl, hc 2 _ rfl⟩

theorem wtL_rv (xs : List RvD) : wtL kdRv xs = xs.length := by
  induction xs with
  | nil => rfl
  | cons z t ih => show 1 + 0 + wtL kdRv t = t.length + 1; omega
end Go.Proofs.Ytofmfagdaiphaaa

/- Lists of lists of lists of numbers. -/
namespace Go.Proofs.Ytofmfagdaiphaaa
open Go.RowKit Go.Sort
set_option linter.unusedVariables false

def kdLLL : Kd (List (List (List Int))) := kdList 43 kdLL
theorem info_rows : (Try.prog.info? 43).map (fun i => (i.zero, i.size, i.bytes)) = some (some (.slice none 0 0), 1, 24) := by kernel_rfl
theorem kdLL.zero (w : World) : kdLL.own w [.slice none 0 0] [] [] := ⟨none, 0, rfl, LO.none_⟩
theorem kdLLL.val1 (v : Value) : kdLLL.val [v] = v := rfl

end Go.Proofs.Ytofmfagdaiphaaa

/- Names, items, sheets: what is valid, in plain words. -/
namespace Go.Proofs.Ytofmfagdaiphaaa
set_option linter.unusedVariables false

def nameByte (b : UInt8) : Bool := (decide (65 ≤ b.toNat) && decide (b.toNat ≤ 90)) || (decide (48 ≤ b.toNat) && decide (b.toNat ≤ 57))
def nameB (s : List UInt8) : Bool := s.all nameByte && inB 1 5 s.length
def itemB (d : ItD) : Bool := d.1.all nameB && inB 1 3 d.1.length && ((d.2.1.length : Int) == (d.1.length : Int)) && d.2.1.all (inB 0 3)
def itemsB (l : List ItD) : Bool := l.all itemB && decide ((l.length : Int) ≤ 14)
def cleanB (l : List ItD) : Bool := itemsB l && l.all (fun it => it.2.1.all (inB 0 0))
abbrev ShD := List ItD × List (List (List Int)) × List RvD
def namesAt (l : List ItD) (i : Nat) : List (List UInt8) := (l.getD i ([], [], false)).1
def rowB (l : List ItD) (votes : List (List Int)) (i : Nat) : Bool := (((votes.getD i []).length : Int) == ((namesAt l i).length : Int)) && (votes.getD i []).all (inB (-1) 3)
def votesB (l : List ItD) (votes : List (List Int)) : Bool := ((votes.length : Int) == (l.length : Int)) && (List.range l.length).all (rowB l votes)
def hasName (l : List ItD) (item name : Int) : Bool := inB 0 ((l.length : Int) - 1) item && inB 0 (((namesAt l item.toNat).length : Int) - 1) name
def reviewB (l : List ItD) (r : RvD) : Bool := hasName l r.1 r.2.1 && inB 0 3 r.2.2
def sheetB (s : ShD) : Bool := cleanB s.1 && ((s.2.1.length : Int) == 3) && decide ((s.2.2.length : Int) ≤ 20) && s.2.1.all (votesB s.1) && s.2.2.all (reviewB s.1)
def rvAt (i k : Nat) (r : RvD) : Bool := (r.1 == (i : Int)) && (r.2.1 == (k : Int))
def voteAt (v : List (List Int)) (item name : Nat) : Int := (v.getD item []).getD name 0
def countV (vs : List (List (List Int))) (item name : Nat) (mark : Int) : Nat := (vs.filter (fun v => voteAt v item name == mark)).length

theorem allL_step {α : Type} {f : α → Bool} {xs : List α} {k : Nat} {x : α} (hx : xs[k]? = some x) (h : (xs.take k).all f = true) (h1 : f x = true) : (xs.take (k + 1)).all f = true := by
  obtain ⟨hk, rfl⟩ := List.getElem?_eq_some_iff.1 hx
  rw [List.take_succ_eq_append_getElem hk, List.all_append, h]
  simpa using h1
theorem allL_stop {α : Type} {f : α → Bool} {xs : List α} {k : Nat} {x : α} (hx : xs[k]? = some x) (h1 : f x = false) : xs.all f = false := by
  rw [List.all_eq_false]
  exact ⟨x, List.mem_of_getElem? hx, by simp [h1]⟩
theorem allL_end {α : Type} {f : α → Bool} {xs : List α} {k : Nat} (hk : xs.length ≤ k) (h : (xs.take k).all f = true) : xs.all f = true := by
  rwa [List.take_of_length_le hk] at h
theorem range_step {f : Nat → Bool} {k : Nat} (h : (List.range k).all f = true) (h1 : f k = true) : (List.range (k + 1)).all f = true := by
  rw [List.range_succ, List.all_append, h]
  simpa using h1
theorem range_stop {f : Nat → Bool} {k n : Nat} (hk : k < n) (h1 : f k = false) : (List.range n).all f = false := by
  rw [List.all_eq_false]
  exact ⟨k, List.mem_range.2 hk, by simp [h1]⟩
theorem namesAt_some {l : List ItD} {i : Nat} {x : ItD} (h : l[i]? = some x) : namesAt l i = x.1 := by
  unfold namesAt
  rw [List.getD_eq_getElem?_getD, h]; rfl
theorem itemB_ok {d : ItD} (h : itemB d = true) : 1 ≤ d.1.length ∧ d.1.length ≤ 3 ∧ d.2.1.length = d.1.length := by
  simp [itemB, inB] at h
  omega
theorem sheetB_votes {s : ShD} (h : sheetB s = true) : s.2.1.length = 3 := by
  simp [sheetB] at h
  omega
theorem sheetB_rows {s : ShD} (h : sheetB s = true) {v : List (List Int)} (hv : v ∈ s.2.1) : v.length = s.1.length ∧ ∀ i, i < s.1.length → (v.getD i []).length = (namesAt s.1 i).length := by
  simp only [sheetB, Bool.and_eq_true, List.all_eq_true] at h
  have h1 := h.1.2 v hv
  simp only [votesB, Bool.and_eq_true, List.all_eq_true, beq_iff_eq, rowB, List.mem_range] at h1
  refine ⟨by omega, fun i hi => ?_⟩
  have := (h1.2 i hi).1
  omega
theorem hasName_ok {l : List ItD} {item name : Int} (h : hasName l item name = true) : ∃ i k : Nat, item = i ∧ name = k ∧ i < l.length ∧ k < (namesAt l i).length := by
  simp only [hasName, inB, Bool.and_eq_true, decide_eq_true_eq] at h
  obtain ⟨⟨h1, h2⟩, h3, h4⟩ := h
  exact ⟨item.toNat, name.toNat, by omega, by omega, by omega, by omega⟩
/-- The call of the votes. -/
def voteF (vs : List (List (List Int))) (i k : Nat) : Int := if 2 ≤ countV vs i k 0 then 0 else if 2 ≤ countV vs i k 1 then 1 else if 2 ≤ countV vs i k 2 then 2 else if 2 ≤ countV vs i k 3 then 3 else -1
def voteUp (vs : List (List (List Int))) (i k : Nat) : Nat → Int
  | 0 => -1
  | q + 1 => if 2 ≤ countV vs i k (q : Int) then (q : Int) else voteUp vs i k q
/-- The last review's mark, or what was said before. -/
def revF (l : List RvD) (i k : Nat) (q : Int) : Int := match l.reverse.find? (rvAt i k) with
  | some r => r.2.2
  | none => q
def callF (s : ShD) (i k : Nat) : Int := revF s.2.2 i k (voteF s.2.1 i k)
def callOfF (s : ShD) (item name : Int) : Int × Bool := if sheetB s && hasName s.1 item name && decide (0 ≤ callF s item.toNat name.toNat) then (callF s item.toNat name.toNat, true) else (0, false)
theorem countV_succ {vs : List (List (List Int))} {j : Nat} {v : List (List Int)} (h : vs[j]? = some v) (i k : Nat) (m : Int) : countV (vs.take (j + 1)) i k m = countV (vs.take j) i k m + (if voteAt v i k == m then 1 else 0) := by
  obtain ⟨hj, rfl⟩ := List.getElem?_eq_some_iff.1 h
  unfold countV
  rw [List.take_succ_eq_append_getElem hj, List.filter_append, List.length_append]
  congr 1
  by_cases hm : voteAt vs[j] i k == m <;> simp [hm]
theorem countV_le (vs : List (List (List Int))) (i k : Nat) (m : Int) : countV vs i k m ≤ vs.length := List.length_filter_le ..
theorem countV_sum (vs : List (List (List Int))) (i k : Nat) : countV vs i k 0 + countV vs i k 1 + countV vs i k 2 + countV vs i k 3 ≤ vs.length := by
  induction vs with
  | nil => simp [countV]
  | cons v t ih =>
    have h : ∀ m, countV (v :: t) i k m = (if voteAt v i k == m then 1 else 0) + countV t i k m := by
      intro m
      unfold countV
      rw [List.filter_cons]
      split <;> simp [*]
      omega
    rw [h 0, h 1, h 2, h 3]
    simp only [beq_iff_eq, List.length_cons]
    repeat' split
    all_goals omega
theorem voteUp_four {vs : List (List (List Int))} (hl : vs.length = 3) (i k : Nat) : voteUp vs i k 4 = voteF vs i k := by
  have h := countV_sum vs i k
  have e : voteUp vs i k 4 = if 2 ≤ countV vs i k 3 then 3 else if 2 ≤ countV vs i k 2 then 2 else if 2 ≤ countV vs i k 1 then 1 else if 2 ≤ countV vs i k 0 then 0 else -1 := rfl
  rw [e]
  unfold voteF
  repeat' split
  all_goals first | rfl | omega
theorem revF_step {l : List RvD} {j : Nat} {r : RvD} (h : l[j]? = some r) (i k : Nat) (q : Int) : revF (l.take (j + 1)) i k q = if rvAt i k r = true then r.2.2 else revF (l.take j) i k q := by
  obtain ⟨hj, rfl⟩ := List.getElem?_eq_some_iff.1 h
  unfold revF
  rw [List.take_succ_eq_append_getElem hj, List.reverse_append]
  simp only [List.reverse_cons, List.reverse_nil, List.nil_append, List.singleton_append, List.find?_cons]
  cases rvAt i k l[j] <;> simp
end Go.Proofs.Ytofmfagdaiphaaa

/- Sheets: weighed, copied, compared; as a kind. -/
namespace Go.Proofs.Ytofmfagdaiphaaa
open Go.RowKit Go.Sort
set_option linter.unusedVariables false

def kdSh : Kd ShD := kdPair kdItS (kdPair kdLLL kdRvS)
theorem kdSh.open_ {w : World} {B : Nat} {vs : List Value} {d : ShD} (h : kdSh.rd w B vs d) : ∃ A c A' c' D e, vs = [.slice A d.1.length c, .slice A' d.2.1.length c', .slice D d.2.2.length e] ∧ LR kdItem w B A c d.1 ∧ LR kdLL w B A' c' d.2.1 ∧ LR kdRv w B D e d.2.2 := by
  obtain ⟨v1, v2, rfl, ⟨A, c, rfl, h1⟩, v3, v4, rfl, ⟨A', c', rfl, h2⟩, ⟨D, e, rfl, h3⟩⟩ := h
  exact ⟨A, c, A', c', D, e, rfl, h1, h2, h3⟩
theorem kdSh.val3 (a b c : Value) : kdSh.val [a, b, c] = .agg #[a, b, c] := rfl
theorem kdSh.wt_eq (d : ShD) : kdSh.wt d = kdItS.wt d.1 + kdLLL.wt d.2.1 + kdRvS.wt d.2.2 := by
  show kdItS.wt d.1 + (kdLLL.wt d.2.1 + kdRvS.wt d.2.2) = _
  omega

/-- Sheets, as the laws without marks hand them about. -/
def kSh : Kind ShD where
  rd w v d := ∃ vs, v = kdSh.val vs ∧ kdSh.rd w w.heap.size vs d
  fr w lo hi v d := ∃ vs fp, v = kdSh.val vs ∧ kdSh.own w vs d fp ∧ (∀ i ∈ fp, lo ≤ i ∧ i < hi)
  ok d := kdSh.wt d ≤ 1048576
  mrk _ d := d
  cnt _ := 0
  rd_ext := by
    rintro w w' v d ⟨vs, rfl, h⟩ hx
    exact ⟨vs, rfl, kdSh.rd_more (kdSh.rd_ext h hx (Nat.le_refl _)) hx.size⟩
  fr_rd := by
    rintro w lo hi v d ⟨vs, fp, rfl, h, _⟩
    exact ⟨vs, rfl, kdSh.own_rd h⟩
  fr_tch := by
    rintro w w' lo hi lo' hi' v d ⟨vs, fp, rfl, h, hf⟩ k hd
    refine ⟨vs, fp, rfl, kdSh.own_keep h (fun i hi' => k.block i (kdSh.own_lt h i hi') ?_), hf⟩
    have := hf i hi'
    omega
  ok_cnt := fun _ => Nat.zero_le _
def kSh.wt (d : ShD) : Nat := kdSh.wt d
theorem kSh.ok_of {d : ShD} (h : ¬ 1048576 < kSh.wt d) : kSh.ok d := Nat.le_of_not_lt h
theorem kSh.lr {w : World} {v : Value} {d : ShD} (h : kSh.rd w v d) : ∃ A c A' c' D e, v = .agg #[.slice A d.1.length c, .slice A' d.2.1.length c', .slice D d.2.2.length e] ∧ LR kdItem w w.heap.size A c d.1 ∧ LR kdLL w w.heap.size A' c' d.2.1 ∧ LR kdRv w w.heap.size D e d.2.2 := by
  obtain ⟨vs, rfl, h⟩ := h
  obtain ⟨A, c, A', c', D, e, rfl, h1⟩ := kdSh.open_ h
  exact ⟨A, c, A', c', D, e, rfl, h1⟩
theorem kSh.shape {w : World} {v : Value} {d : ShD} (h : kSh.rd w v d) : ∃ A n c A' n' c' A'' n'' c'', v = .agg #[.slice A n c, .slice A' n' c', .slice A'' n'' c''] := by
  obtain ⟨A, c, A', c', D, e, rfl, _⟩ := kSh.lr h
  exact ⟨A, _, c, A', _, c', D, _, e, rfl⟩
end Go.Proofs.Ytofmfagdaiphaaa

/- Names and items: what the program and the reference call valid. -/
namespace Go.Proofs.Ytofmfagdaiphaaa
open Go.RowKit Go.Sort
set_option linter.unusedVariables false

theorem bs_get (x : List UInt8) (k : Nat) (h : k < (bs x).size) (y : UInt8) (hy : x[k]? = some y) : (bs x)[k]'h = y := by
  obtain ⟨hk, rfl⟩ := List.getElem?_eq_some_iff.1 hy
  rfl
theorem s.itByte_any (b : UInt8) (w : World) : Calls Try.prog 94 #[.int .u8 b.toNat] w fun e w' => e = .returned (.bool (nameByte b)) ∧ w = w' := by
  have hb := b.toNat_lt
  unfold nameByte
  generalize b.toNat = n at *
  go_enter Try.func94, Try.ntmps94
  go_wp2
  all_goals go_ret
  all_goals refine ⟨ret_bool ?_, rfl⟩
  all_goals rw [Bool.eq_iff_iff]
  all_goals simp
  all_goals omega

set_option maxHeartbeats 1000000 in
theorem i.IsElementName_any (x : List UInt8) (w : World) (hx : x.length ≤ 9223372036854775807) : Calls Try.prog 95 #[.string (bs x)] w fun e w' => e = .returned (.bool (nameB x)) ∧ w = w' := by
  obtain ⟨n, hn⟩ : ∃ n, Hid (x.length = n) := ⟨_, rfl⟩
  have hz : (bs x).size = n := by rw [bs_size, hn.out]
  rw [hn.out] at hx
  have GET := hide (bs_get x)
  have HZ := hide hz
  clear hz
  obtain ⟨sb, hs⟩ : ∃ sb, Hid (bs x = sb) := ⟨_, rfl⟩
  rw [hs.out] at GET HZ ⊢
  have hz := HZ.out
  go_enter Try.func95, Try.ntmps95
  go_wp2
  go_loop [3] (fun i => ∃ k : Nat, k ≤ n ∧ i = .int .i64 k ∧ (x.take k).all nameByte = true) (fun i => n - (intOf i).toNat)
  case atStart => exact ⟨0, Nat.zero_le _, rfl, rfl⟩
  case round =>
    obtain ⟨k, hk, rfl, hall⟩ := hrel
    have H := hide hall; clear hall
    by_cases hlt : k < n
    · obtain ⟨y, hy⟩ : ∃ y, Hid (x[k]? = some y) := ⟨_, List.getElem?_eq_getElem (by rw [hn.out]; exact hlt)⟩
      go_wp2_with fail
      all_goals have e := GET.out k (by omega) y hy.out
      all_goals try simp only [e] at *
      all_goals first
        | (go_ret
           refine ⟨ret_bool ?_, rfl⟩
           have hb : nameByte y = false := by first | (unfold nameByte; simp; omega) | exact not_t (by assumption)
           rw [nameB, allL_stop hy.out hb]; rfl)
        | (go_round
           case rel =>
             have hb : nameByte y = true := by first | (unfold nameByte; simp; omega) | exact not_f (by assumption)
             exact ⟨k + 1, by omega, by go_num, allL_step hy.out H.out hb⟩
           case measure => simp [intOf]; omega)
    · go_wp2_with (go_at_call 48; refine (i.within_any _ _ _ _).mono ?_; rintro e w' ⟨rfl, rfl⟩)
      go_ret
      exact ⟨ret_bool (by rw [nameB, allL_end (by rw [hn.out]; omega) H.out, hn.out]; simp), rfl⟩

set_option maxHeartbeats 1000000 in
theorem s.itName_any (x : List UInt8) (w : World) (hx : x.length ≤ 9223372036854775807) : Calls Try.prog 92 #[.string (bs x)] w fun e w' => e = .returned (.bool (nameB x)) ∧ w = w' := by
  obtain ⟨n, hn⟩ : ∃ n, Hid (x.length = n) := ⟨_, rfl⟩
  have hz : (bs x).size = n := by rw [bs_size, hn.out]
  rw [hn.out] at hx
  have GET := hide (bs_get x)
  have HZ := hide hz
  clear hz
  obtain ⟨sb, hs⟩ : ∃ sb, Hid (bs x = sb) := ⟨_, rfl⟩
  rw [hs.out] at GET HZ ⊢
  have hz := HZ.out
  go_enter Try.func92, Try.ntmps92
  go_wp2
  go_loop [3] (fun i => ∃ k : Nat, k ≤ n ∧ i = .int .i64 k ∧ (x.take k).all nameByte = true) (fun i => n - (intOf i).toNat)
  case atStart => exact ⟨0, Nat.zero_le _, rfl, rfl⟩
  case round =>
    obtain ⟨k, hk, rfl, hall⟩ := hrel
    have H := hide hall; clear hall
    by_cases hlt : k < n
    · obtain ⟨y, hy⟩ : ∃ y, Hid (x[k]? = some y) := ⟨_, List.getElem?_eq_getElem (by rw [hn.out]; exact hlt)⟩
      go_wp2_with (go_at_call 94; refine (s.itByte_any _ _).mono ?_; rintro e w' ⟨rfl, rfl⟩)
      all_goals have e := GET.out k (by omega) y hy.out
      all_goals try simp only [e] at *
      all_goals first
        | (go_ret
           refine ⟨ret_bool ?_, rfl⟩
           have hb : nameByte y = false := by first | (unfold nameByte; simp; omega) | exact not_t (by assumption)
           rw [nameB, allL_stop hy.out hb]; rfl)
        | (go_round
           case rel =>
             have hb : nameByte y = true := by first | (unfold nameByte; simp; omega) | exact not_f (by assumption)
             exact ⟨k + 1, by omega, by go_num, allL_step hy.out H.out hb⟩
           case measure => simp [intOf]; omega)
    · go_wp2_with (go_at_call 50; refine (s.l1In_any _ _ _ _).mono ?_; rintro e w' ⟨rfl, rfl⟩)
      go_ret
      exact ⟨ret_bool (by rw [nameB, allL_end (by rw [hn.out]; omega) H.out, hn.out]; simp), rfl⟩
theorem i.IsName_any (x : List UInt8) (w : World) (hx : x.length ≤ 9223372036854775807) : Calls Try.prog 93 #[.string (bs x)] w fun e w' => e = .returned (.bool (nameB x)) ∧ w = w' := by
  generalize hs : bs x = sb
  go_enter Try.func93, Try.ntmps93
  go_wp2_with (go_at_call 95; rw [← hs]; refine (i.IsElementName_any x _ hx).mono ?_; rintro e w' ⟨rfl, rfl⟩)
  go_ret
  exact ⟨rfl, rfl⟩
end Go.Proofs.Ytofmfagdaiphaaa

/- Items and lists of items: what the program and the reference call valid. -/
namespace Go.Proofs.Ytofmfagdaiphaaa
open Go.RowKit Go.Sort
set_option linter.unusedVariables false

theorem kdItem.wt_le {d : ItD} (h : kdItem.wt d ≤ 1048576) : d.1.length ≤ 1048576 ∧ d.2.1.length ≤ 1048576 ∧ ∀ x ∈ d.1, x.length ≤ 1048576 := by
  rw [kdItem.wt_eq] at h
  have h1 := wtL_len kdS d.1
  have h2 : kdSS.wt d.1 = wtL kdS d.1 := rfl
  have h3 : kdL.wt d.2.1 = d.2.1.length := wtL_int _
  refine ⟨by omega, by omega, fun x hx => ?_⟩
  obtain ⟨k, hk⟩ := List.getElem?_of_mem hx
  have h4 := wtL_at kdS d.1 k x hk
  have h5 : kdS.wt x = x.length := rfl
  omega

set_option maxRecDepth 100000 in
set_option maxHeartbeats 2000000 in
theorem i.IsItem_any (w : World) (vs : List Value) (d : ItD) (h : kdItem.rd w w.heap.size vs d) (hwt : kdItem.wt d ≤ 1048576) :
    Calls Try.prog 86 #[kdItem.val vs] w fun e w' => e = .returned (.bool (itemB d)) ∧ Ext w w' := by
  obtain ⟨A, c, A', c', rfl, h1, h2⟩ := kdItem.open_ h
  obtain ⟨k1, k2, k3⟩ := kdItem.wt_le hwt
  have H1 := hide h1
  have H2 := hide h2
  have K3 := hide k3
  have a1 := h1.1; have a2 := h1.2.1; have a3 := h2.1; have a4 := h2.2.1
  clear h h1 h2 k3 hwt
  rw [kdItem.val3]
  obtain ⟨R, hR⟩ : ∃ R, Hid (itemB d = R) := ⟨_, rfl⟩
  rw [hR.out]
  obtain ⟨n, hn⟩ : ∃ n, Hid (d.1.length = n) := ⟨_, rfl⟩
  obtain ⟨n', hn'⟩ : ∃ n', Hid (d.2.1.length = n') := ⟨_, rfl⟩
  obtain ⟨q, hq⟩ : ∃ q, Hid (d.2.2 = q) := ⟨_, rfl⟩
  rw [hn.out, hn'.out, hq.out]
  rw [hn.out] at k1 a1
  rw [hn'.out] at k2 a3
  obtain ⟨W0, hW0⟩ : ∃ W0, Hid (W0 = w.alloc (.cells #[.slice A n c, .slice A' n' c', .bool q] 50)) := ⟨_, rfl⟩
  have X0 : Hid (Ext w W0) := by rw [hW0.out]; exact Ext.alloc w _
  have B0 : Hid (Blk W0 w.heap.size #[.slice A n c, .slice A' n' c', .bool q] 50) := by rw [hW0.out]; exact Blk.new rfl _ _
  replace H1 := hide (H1.out.ext X0.out (Nat.le_refl _))
  replace H2 := hide (H2.out.ext X0.out (Nat.le_refl _))
  go_enter Try.func86, Try.ntmps86
  go_wp2
  rw [← hW0.out]
  clear hW0
  go_loopw [8] (fun i wr => ∃ (k : Nat), k ≤ n ∧ i = .int .i64 k ∧ (d.1.take k).all nameB = true ∧ wr = W0) (fun i _ => n - (intOf i).toNat)
  case atStart => exact ⟨0, Nat.zero_le _, rfl, rfl, rfl⟩
  case round =>
    obtain ⟨k, hk, rfl, hall, rfl⟩ := hrel
    have HA := hide hall
    clear hall
    by_cases hlt : k < n
    · obtain ⟨x, hxk⟩ : ∃ x, Hid (d.1[k]? = some x) := ⟨_, List.getElem?_eq_getElem (by rw [hn.out]; exact hlt)⟩
      obtain ⟨b, off, rfl, hb, hck, hxl⟩ := H1.out.str k x hxk.out
      have NX := hide (i.IsName_any x wr hxl)
      generalize bs x = xb at *
      clear hxl
      cases hnx : nameB x
      · have HN := hide hnx
        rw [hnx] at NX
        clear hnx
        go_wp2_with (go_at_call 93; refine NX.out.mono ?_; rintro e w' ⟨rfl, rfl⟩)
        go_ret
        exact ⟨ret_bool (by rw [← hR.out]; simp [itemB, allL_stop hxk.out HN.out]), X0.out⟩
      · have HN := hide hnx
        rw [hnx] at NX
        clear hnx
        go_wp2_with (go_at_call 93; refine NX.out.mono ?_; rintro e w' ⟨rfl, rfl⟩)
        go_roundw
        case rel => exact ⟨k + 1, by omega, by go_num, allL_step hxk.out HA.out HN.out, trivial⟩
        case measure => simp [intOf]; omega
    · have HE := hide (allL_end (by rw [hn.out]; omega) HA.out)
      have cB := B0.out.cell
      have SM := hide (i.allWithin_any A' n' c' w.heap.size d.2.1 0 3 wr (by have := H2.out.sl; rwa [hn'.out] at this) k2)
      cases hb : inB 1 3 (n : Int)
      · have HB := hide hb
        go_wp2_with (go_at_call 48; refine (i.within_any _ _ _ _).mono ?_; rintro e w' ⟨rfl, rfl⟩)
        go_ret
        exact ⟨ret_bool (by rw [← hR.out]; simp [itemB, hn.out, HB.out]), X0.out⟩
      · have HB := hide hb
        by_cases hm : n' = n
        · have b1 : ((n' : Int) == (n : Int)) = true := by simp [hm]
          have HM := hide hm
          clear hm
          generalize hall : d.2.1.all (inB 0 3) = z at *
          have HZ := hide hall
          clear hall
          go_wp2_with (first | (go_at_call 48; refine (i.within_any _ _ _ _).mono ?_; rintro e w' ⟨rfl, rfl⟩) | (go_at_call 46; refine SM.out.mono ?_; rintro e w' ⟨rfl, rfl⟩))
          go_ret
          exact ⟨ret_bool (by rw [← hR.out]; simp [itemB, HE.out, hn.out, hn'.out, HB.out, HM.out, HZ.out]), X0.out⟩
        · have b1 : ((n' : Int) == (n : Int)) = false := by rw [beq_eq_false_iff_ne]; intro h8; exact hm (by omega)
          have HM := hide b1
          clear hm
          go_wp2_with (go_at_call 48; refine (i.within_any _ _ _ _).mono ?_; rintro e w' ⟨rfl, rfl⟩)
          go_ret
          exact ⟨ret_bool (by rw [← hR.out]; simp only [itemB, hn.out, hn'.out, HM.out]; simp), X0.out⟩

set_option maxRecDepth 100000 in
set_option maxHeartbeats 2000000 in
theorem s.itGood_any (w : World) (vs : List Value) (d : ItD) (h : kdItem.rd w w.heap.size vs d) (hwt : kdItem.wt d ≤ 1048576) :
    Calls Try.prog 81 #[kdItem.val vs] w fun e w' => e = .returned (.bool (itemB d)) ∧ Ext w w' := by
  obtain ⟨A, c, A', c', rfl, h1, h2⟩ := kdItem.open_ h
  obtain ⟨k1, k2, k3⟩ := kdItem.wt_le hwt
  have H1 := hide h1
  have H2 := hide h2
  have K3 := hide k3
  have a1 := h1.1; have a2 := h1.2.1; have a3 := h2.1; have a4 := h2.2.1
  clear h h1 h2 k3 hwt
  rw [kdItem.val3]
  obtain ⟨R, hR⟩ : ∃ R, Hid (itemB d = R) := ⟨_, rfl⟩
  rw [hR.out]
  obtain ⟨n, hn⟩ : ∃ n, Hid (d.1.length = n) := ⟨_, rfl⟩
  obtain ⟨n', hn'⟩ : ∃ n', Hid (d.2.1.length = n') := ⟨_, rfl⟩
  obtain ⟨q, hq⟩ : ∃ q, Hid (d.2.2 = q) := ⟨_, rfl⟩
  rw [hn.out, hn'.out, hq.out]
  rw [hn.out] at k1 a1
  rw [hn'.out] at k2 a3
  obtain ⟨W0, hW0⟩ : ∃ W0, Hid (W0 = w.alloc (.cells #[.slice A n c, .slice A' n' c', .bool q] 50)) := ⟨_, rfl⟩
  have X0 : Hid (Ext w W0) := by rw [hW0.out]; exact Ext.alloc w _
  have B0 : Hid (Blk W0 w.heap.size #[.slice A n c, .slice A' n' c', .bool q] 50) := by rw [hW0.out]; exact Blk.new rfl _ _
  replace H1 := hide (H1.out.ext X0.out (Nat.le_refl _))
  replace H2 := hide (H2.out.ext X0.out (Nat.le_refl _))
  go_enter Try.func81, Try.ntmps81
  go_wp2
  rw [← hW0.out]
  clear hW0
  go_loopw [8] (fun i wr => ∃ (k : Nat), k ≤ n ∧ i = .int .i64 k ∧ (d.1.take k).all nameB = true ∧ wr = W0) (fun i _ => n - (intOf i).toNat)
  case atStart => exact ⟨0, Nat.zero_le _, rfl, rfl, rfl⟩
  case round =>
    obtain ⟨k, hk, rfl, hall, rfl⟩ := hrel
    have HA := hide hall
    clear hall
    by_cases hlt : k < n
    · obtain ⟨x, hxk⟩ : ∃ x, Hid (d.1[k]? = some x) := ⟨_, List.getElem?_eq_getElem (by rw [hn.out]; exact hlt)⟩
      obtain ⟨b, off, rfl, hb, hck, hxl⟩ := H1.out.str k x hxk.out
      have NX := hide (s.itName_any x wr hxl)
      generalize bs x = xb at *
      clear hxl
      cases hnx : nameB x
      · have HN := hide hnx
        rw [hnx] at NX
        clear hnx
        go_wp2_with (go_at_call 92; refine NX.out.mono ?_; rintro e w' ⟨rfl, rfl⟩)
        go_ret
        exact ⟨ret_bool (by rw [← hR.out]; simp [itemB, allL_stop hxk.out HN.out]), X0.out⟩
      · have HN := hide hnx
        rw [hnx] at NX
        clear hnx
        go_wp2_with (go_at_call 92; refine NX.out.mono ?_; rintro e w' ⟨rfl, rfl⟩)
        go_roundw
        case rel => exact ⟨k + 1, by omega, by go_num, allL_step hxk.out HA.out HN.out, trivial⟩
        case measure => simp [intOf]; omega
    · have HE := hide (allL_end (by rw [hn.out]; omega) HA.out)
      have cB := B0.out.cell
      have SM := hide (s.l1All_any A' n' c' w.heap.size d.2.1 0 3 wr (by have := H2.out.sl; rwa [hn'.out] at this) k2)
      cases hb : inB 1 3 (n : Int)
      · have HB := hide hb
        go_wp2_with (go_at_call 50; refine (s.l1In_any _ _ _ _).mono ?_; rintro e w' ⟨rfl, rfl⟩)
        go_ret
        exact ⟨ret_bool (by rw [← hR.out]; simp [itemB, hn.out, HB.out]), X0.out⟩
      · have HB := hide hb
        by_cases hm : n' = n
        · have b1 : ((n' : Int) == (n : Int)) = true := by simp [hm]
          have HM := hide hm
          clear hm
          generalize hall : d.2.1.all (inB 0 3) = z at *
          have HZ := hide hall
          clear hall
          go_wp2_with (first | (go_at_call 50; refine (s.l1In_any _ _ _ _).mono ?_; rintro e w' ⟨rfl, rfl⟩) | (go_at_call 84; refine SM.out.mono ?_; rintro e w' ⟨rfl, rfl⟩))
          go_ret
          exact ⟨ret_bool (by rw [← hR.out]; simp [itemB, HE.out, hn.out, hn'.out, HB.out, HM.out, HZ.out]), X0.out⟩
        · have b1 : ((n' : Int) == (n : Int)) = false := by rw [beq_eq_false_iff_ne]; intro h8; exact hm (by omega)
          have HM := hide b1
          clear hm
          go_wp2_with (go_at_call 50; refine (s.l1In_any _ _ _ _).mono ?_; rintro e w' ⟨rfl, rfl⟩)
          go_ret
          exact ⟨ret_bool (by rw [← hR.out]; simp only [itemB, hn.out, hn'.out, HM.out]; simp), X0.out⟩

set_option maxRecDepth 100000 in
set_option maxHeartbeats 2000000 in
theorem i.AreItems_wk (w : World) (A : Option Addr) (c B : Nat) (xs : List ItD) (h : LR kdItem w B A c xs) (hB : B ≤ w.heap.size) (hlen : xs.length ≤ 1048576) (hwt : ∀ (k : Nat) (x : ItD), xs[k]? = some x → kdItem.wt x ≤ 1048576) :
    Calls Try.prog 68 #[.slice A xs.length c] w fun e w' => e = .returned (.bool (itemsB xs)) ∧ Ext w w' := by
  have H := hide h
  have HW := hide hwt
  have a1 := h.1; have a2 := h.2.1
  obtain ⟨R, hR⟩ : ∃ R, Hid (itemsB xs = R) := ⟨_, rfl⟩
  rw [hR.out]
  obtain ⟨n, hn⟩ : ∃ n, Hid (xs.length = n) := ⟨_, rfl⟩
  rw [hn.out] at hlen a1 ⊢
  have n1 : n ≤ 1048576 := hlen
  clear h hwt hlen
  go_enter Try.func68, Try.ntmps68
  go_wp2
  go_loopw [7] (fun i wr => ∃ (k : Nat), k ≤ n ∧ i = .int .i64 k ∧ (xs.take k).all itemB = true ∧ Ext w wr) (fun i _ => n - (intOf i).toNat)
  case atStart => exact ⟨0, Nat.zero_le _, rfl, rfl, Ext.refl _⟩
  case round =>
    obtain ⟨k, hk, rfl, hall, hx⟩ := hrel
    have HA := hide hall
    have HX := hide hx
    clear hall hx
    by_cases hlt : k < n
    · obtain ⟨x, hxk⟩ : ∃ x, Hid (xs[k]? = some x) := ⟨_, List.getElem?_eq_getElem (by rw [hn.out]; exact hlt)⟩
      obtain ⟨b, off, A1, c1, A2, c2, rfl, hb, q0, q1, q2, r1, r2⟩ := (H.out.ext HX.out hB).item k x hxk.out
      have hsz := HX.out.size
      have RX := hide (kdItem.rd_more (B' := wr.heap.size) (kdItem.mk_ r1 r2) (by omega))
      clear r1 r2
      obtain ⟨W1, hW1⟩ : ∃ W1, Hid (W1 = wr.alloc (.cells #[.slice A1 x.1.length c1, .slice A2 x.2.1.length c2, .bool x.2.2] 50)) := ⟨_, rfl⟩
      have x1 : Ext wr W1 := by rw [hW1.out]; exact Ext.alloc _ _
      have IT := hide (i.IsItem_any W1 _ x (kdItem.rd_more (kdItem.rd_ext RX.out x1 (Nat.le_refl _)) x1.size) (HW.out k x hxk.out))
      replace HX := hide (HX.out.trans x1)
      clear x1 RX
      go_wp2_with fail
      rw [← hW1.out]
      clear hW1
      refine IT.out.mono ?_
      rintro e w2 ⟨rfl, x2⟩
      replace HX := hide (HX.out.trans x2)
      clear x2
      cases hb2 : itemB x
      · have HN := hide hb2
        clear hb2
        go_wp2
        go_ret
        exact ⟨ret_bool (by rw [← hR.out]; simp [itemsB, allL_stop hxk.out HN.out]), HX.out⟩
      · have HN := hide hb2
        clear hb2
        go_wp2
        go_roundw
        case rel => exact ⟨k + 1, by omega, by go_num, allL_step hxk.out HA.out HN.out, HX.out⟩
        case measure => simp [intOf]; omega
    · have HE := hide (allL_end (by rw [hn.out]; omega) HA.out)
      go_wp2
      go_ret
      exact ⟨ret_bool (by rw [← hR.out, itemsB, HE.out, hn.out]; simp), HX.out⟩
theorem i.AreItems_any (w : World) (A : Option Addr) (c B : Nat) (xs : List ItD) (h : LR kdItem w B A c xs) (hB : B ≤ w.heap.size) (hwt : wtL kdItem xs ≤ 1048576) :
    Calls Try.prog 68 #[.slice A xs.length c] w fun e w' => e = .returned (.bool (itemsB xs)) ∧ Ext w w' :=
  i.AreItems_wk w A c B xs h hB (Nat.le_trans (wtL_len kdItem xs) hwt) (fun k x hx => Nat.le_trans (wtL_at kdItem xs k x hx) hwt)

set_option maxRecDepth 100000 in
set_option maxHeartbeats 2000000 in
theorem s.itList_wk (w : World) (A : Option Addr) (c B : Nat) (xs : List ItD) (h : LR kdItem w B A c xs) (hB : B ≤ w.heap.size) (hlen : xs.length ≤ 1048576) (hwt : ∀ (k : Nat) (x : ItD), xs[k]? = some x → kdItem.wt x ≤ 1048576) :
    Calls Try.prog 83 #[.slice A xs.length c] w fun e w' => e = .returned (.bool (itemsB xs)) ∧ Ext w w' := by
  have H := hide h
  have HW := hide hwt
  have a1 := h.1; have a2 := h.2.1
  obtain ⟨R, hR⟩ : ∃ R, Hid (itemsB xs = R) := ⟨_, rfl⟩
  rw [hR.out]
  obtain ⟨n, hn⟩ : ∃ n, Hid (xs.length = n) := ⟨_, rfl⟩
  rw [hn.out] at hlen a1 ⊢
  have n1 : n ≤ 1048576 := hlen
  clear h hwt hlen
  go_enter Try.func83, Try.ntmps83
  go_wp2
  go_loopw [7] (fun i wr => ∃ (k : Nat), k ≤ n ∧ i = .int .i64 k ∧ (xs.take k).all itemB = true ∧ Ext w wr) (fun i _ => n - (intOf i).toNat)
  case atStart => exact ⟨0, Nat.zero_le _, rfl, rfl, Ext.refl _⟩
  case round =>
    obtain ⟨k, hk, rfl, hall, hx⟩ := hrel
    have HA := hide hall
    have HX := hide hx
    clear hall hx
    by_cases hlt : k < n
    · obtain ⟨x, hxk⟩ : ∃ x, Hid (xs[k]? = some x) := ⟨_, List.getElem?_eq_getElem (by rw [hn.out]; exact hlt)⟩
      obtain ⟨b, off, A1, c1, A2, c2, rfl, hb, q0, q1, q2, r1, r2⟩ := (H.out.ext HX.out hB).item k x hxk.out
      have hsz := HX.out.size
      have RX := hide (kdItem.rd_more (B' := wr.heap.size) (kdItem.mk_ r1 r2) (by omega))
      clear r1 r2
      obtain ⟨W1, hW1⟩ : ∃ W1, Hid (W1 = wr.alloc (.cells #[.slice A1 x.1.length c1, .slice A2 x.2.1.length c2, .bool x.2.2] 50)) := ⟨_, rfl⟩
      have x1 : Ext wr W1 := by rw [hW1.out]; exact Ext.alloc _ _
      have IT := hide (s.itGood_any W1 _ x (kdItem.rd_more (kdItem.rd_ext RX.out x1 (Nat.le_refl _)) x1.size) (HW.out k x hxk.out))
      replace HX := hide (HX.out.trans x1)
      clear x1 RX
      go_wp2_with fail
      rw [← hW1.out]
      clear hW1
      refine IT.out.mono ?_
      rintro e w2 ⟨rfl, x2⟩
      replace HX := hide (HX.out.trans x2)
      clear x2
      cases hb2 : itemB x
      · have HN := hide hb2
        clear hb2
        go_wp2
        go_ret
        exact ⟨ret_bool (by rw [← hR.out]; simp [itemsB, allL_stop hxk.out HN.out]), HX.out⟩
      · have HN := hide hb2
        clear hb2
        go_wp2
        go_roundw
        case rel => exact ⟨k + 1, by omega, by go_num, allL_step hxk.out HA.out HN.out, HX.out⟩
        case measure => simp [intOf]; omega
    · have HE := hide (allL_end (by rw [hn.out]; omega) HA.out)
      go_wp2
      go_ret
      exact ⟨ret_bool (by rw [← hR.out, itemsB, HE.out, hn.out]; simp), HX.out⟩
theorem s.itList_any (w : World) (A : Option Addr) (c B : Nat) (xs : List ItD) (h : LR kdItem w B A c xs) (hB : B ≤ w.heap.size) (hwt : wtL kdItem xs ≤ 1048576) :
    Calls Try.prog 83 #[.slice A xs.length c] w fun e w' => e = .returned (.bool (itemsB xs)) ∧ Ext w w' :=
  s.itList_wk w A c B xs h hB (Nat.le_trans (wtL_len kdItem xs) hwt) (fun k x hx => Nat.le_trans (wtL_at kdItem xs k x hx) hwt)
end Go.Proofs.Ytofmfagdaiphaaa
