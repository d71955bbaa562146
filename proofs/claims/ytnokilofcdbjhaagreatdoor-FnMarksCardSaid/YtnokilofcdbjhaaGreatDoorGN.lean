/- GN: NA, NB, NC, ND, NV, NP, NK, NQ, NS in one text. -/
import Derived.Test.YtnokilofcdbjhaaGreatDoorGB
import Derived.Test.YtnokilofcdbjhaaGreatDoorGA
/- Texts, items, reviews, votes, sheets: as kinds; the texts' lists copied, weighed, compared. -/
namespace Go.Proofs.YtnokilofcdbjhaaGreatDoor
open Go.RowKit Go.Sort
set_option linter.unusedVariables false

/-- The text with which the laws mark the k-th string. -/
def markD : Nat → Nat → List UInt8
  | 0, _ => []
  | f + 1, k => if k = 0 then [] else markD f (k / 10) ++ [UInt8.ofNat (48 + k % 10)]
def markT (k : Int) : List UInt8 := 109 :: (if k ≤ 0 then [48] else markD 20 k.toNat)
def kdS : Kd (List UInt8) := kdStr markT
def kdSS : Kd (List (List UInt8)) := kdList 9 kdS
/-- A truth value, as the laws mark it in a list. -/
def kdLate : Kd Bool := { kdBool with mrk := fun k _ => k % 3 == 0, cnt := fun _ => 1 }
abbrev ItD := List (List UInt8) × List Int × Bool
def kdItem : Kd ItD := kdPair kdSS (kdPair kdL kdLate)
abbrev RvD := Int × Int × Int
def kdRv : Kd RvD := kdPair kdInt (kdPair kdInt kdInt)
theorem bs_size (x : List UInt8) : (bs x).size = x.length := by simp [bs, ByteArray.size]
theorem bs_inj {x y : List UInt8} (h : bs x = bs y) : x = y := by
  unfold bs at h
  injection h with h
  exact Array.toList_inj.mpr h |> fun e => by simpa using e

theorem info_str : (Tryz.prog.info? 9).map (fun i => (i.zero, i.size, i.bytes)) = some (some (.string (bs [])), 1, 16) := by kernel_rfl
theorem kdSS.val1 (v : Value) : kdSS.val [v] = v := rfl
theorem kdS.zero (w : World) : kdS.own w [.string (bs [])] [] [] := ⟨⟨rfl, by simp⟩, rfl⟩
/-- A cell of a list of texts. -/
theorem LR.str {w : World} {B c : Nat} {A : Option Addr} {xs : List (List UInt8)} (h : LR kdS w B A c xs) (k : Nat) (x : List UInt8) (hx : xs[k]? = some x) : ∃ b off, A = some ⟨b, off, none⟩ ∧ b < B ∧ w.cell? ⟨b, off + k, none⟩ = some (.string (bs x)) ∧ x.length ≤ 9223372036854775807 := by
  obtain ⟨b, off, cs, rfl, hb, ⟨rfl, hl⟩, hc⟩ := h.2.2 k x hx
  refine ⟨b, off, rfl, hb, ?_, hl⟩
  have := hc 0 _ rfl
  rwa [show k * kdS.size + 0 = k from by show k * 1 + 0 = k; omega] at this

end Go.Proofs.YtnokilofcdbjhaaGreatDoor

/- Items: weighed, copied, compared. -/
namespace Go.Proofs.YtnokilofcdbjhaaGreatDoor
open Go.RowKit Go.Sort
set_option linter.unusedVariables false

theorem kdItem.open_ {w : World} {B : Nat} {vs : List Value} {d : ItD} (h : kdItem.rd w B vs d) : ∃ A c A' c', vs = [.slice A d.1.length c, .slice A' d.2.1.length c', .bool d.2.2] ∧ LR kdS w B A c d.1 ∧ LR kdInt w B A' c' d.2.1 := by
  obtain ⟨v1, v2, rfl, ⟨A, c, rfl, h1⟩, v3, v4, rfl, ⟨A', c', rfl, h2⟩, h3⟩ := h
  have h3 : v4 = [.bool d.2.2] := h3
  subst h3
  exact ⟨A, c, A', c', rfl, h1, h2⟩
theorem kdItem.mk_ {w : World} {B : Nat} {d : ItD} {A A' : Option Addr} {c c' : Nat} (h1 : LR kdS w B A c d.1) (h2 : LR kdInt w B A' c' d.2.1) : kdItem.rd w B [.slice A d.1.length c, .slice A' d.2.1.length c', .bool d.2.2] d :=
  ⟨[.slice A d.1.length c], [.slice A' d.2.1.length c', .bool d.2.2], rfl, ⟨A, c, rfl, h1⟩, [.slice A' d.2.1.length c'], [.bool d.2.2], rfl, ⟨A', c', rfl, h2⟩, rfl⟩
theorem kdItem.mkOwn {w : World} {d : ItD} {A A' : Option Addr} {c c' : Nat} {f1 f2 : List Nat} (h1 : LO kdS 9 w A c d.1 f1) (h2 : LO kdInt 3 w A' c' d.2.1 f2) (hd : ∀ i ∈ f1, i ∉ f2) : kdItem.own w [.slice A d.1.length c, .slice A' d.2.1.length c', .bool d.2.2] d (f1 ++ f2) := by
  have hnd : (f1 ++ f2).Nodup := by
    rw [List.nodup_append]
    exact ⟨h1.nodup, h2.nodup, fun a ha b hb e => hd a ha (e ▸ hb)⟩
  exact ⟨[.slice A d.1.length c], [.slice A' d.2.1.length c', .bool d.2.2], f1, f2, rfl, ⟨A, c, rfl, h1⟩, ⟨[.slice A' d.2.1.length c'], [.bool d.2.2], f2, [], rfl, ⟨A', c', rfl, h2⟩, ⟨rfl, rfl⟩, by simp, h2.nodup⟩, rfl, hnd⟩
theorem kdItem.val3 (a b c : Value) : kdItem.val [a, b, c] = .agg #[a, b, c] := rfl
theorem kdItem.wt_eq (d : ItD) : kdItem.wt d = kdSS.wt d.1 + kdL.wt d.2.1 := by
  show kdSS.wt d.1 + (kdL.wt d.2.1 + 0) = _
  omega

end Go.Proofs.YtnokilofcdbjhaaGreatDoor

/- Lists of structs: copied, compared, weighed. -/
namespace Go.Proofs.YtnokilofcdbjhaaGreatDoor
open Go.RowKit Go.Sort
set_option linter.unusedVariables false

theorem made_flat (z : Array Value) (n : Nat) : (madeCells z (n * z.size)).toList = (List.replicate n z.toList).flatten := by
  have h0 : ∀ m, (madeCells z m).toList = (List.range m).map (fun i => z[i % z.size]!) := by
    intro m
    simp [madeCells]
  rw [h0]
  induction n with
  | zero => simp
  | succ n ih =>
    rw [Nat.add_mul, Nat.one_mul, List.range_add, List.map_append, ih, List.replicate_succ', List.flatten_append]
    congr 1
    rw [List.map_map]
    simp only [List.flatten_cons, List.flatten_nil, List.append_nil]
    apply List.ext_getElem
    · simp
    · intro i h1 h2
      simp at h1
      simp only [List.getElem_map, List.getElem_range, Function.comp_apply]
      rw [Nat.mul_comm n, Nat.mul_add_mod, Nat.mod_eq_of_lt h1]
      simp [h1]

def noItem : ItD := ([], [], false)
theorem kdItem.zero (w : World) : kdItem.own w [.slice none 0 0, .slice none 0 0, .bool false] noItem [] := kdItem.mkOwn (d := noItem) LO.none_ LO.none_ (by simp)
theorem LR.item {w : World} {B c : Nat} {A : Option Addr} {xs : List ItD} (h : LR kdItem w B A c xs) (k : Nat) (x : ItD) (hx : xs[k]? = some x) : ∃ b off A1 c1 A2 c2, A = some ⟨b, off, none⟩ ∧ b < B ∧ w.cell? ⟨b, off + k * 3, none⟩ = some (.slice A1 x.1.length c1) ∧ w.cell? ⟨b, off + k * 3 + 1, none⟩ = some (.slice A2 x.2.1.length c2) ∧ w.cell? ⟨b, off + k * 3 + 2, none⟩ = some (.bool x.2.2) ∧ LR kdS w B A1 c1 x.1 ∧ LR kdInt w B A2 c2 x.2.1 := by
  obtain ⟨b, off, cs, rfl, hb, hr, hc⟩ := h.2.2 k x hx
  obtain ⟨A1, c1, A2, c2, rfl, h1, h2⟩ := kdItem.open_ hr
  exact ⟨b, off, A1, c1, A2, c2, rfl, hb, hc 0 _ rfl, hc 1 _ rfl, hc 2 _ rfl, h1, h2⟩

end Go.Proofs.YtnokilofcdbjhaaGreatDoor

/- Reviews, and lists of them. -/
namespace Go.Proofs.YtnokilofcdbjhaaGreatDoor
open Go.RowKit Go.Sort
set_option linter.unusedVariables false

theorem kdRv.open_ {w : World} {B : Nat} {vs : List Value} {d : RvD} (h : kdRv.rd w B vs d) : vs = [.int .i64 d.1, .int .i64 d.2.1, .int .i64 d.2.2] := by
  obtain ⟨v1, v2, rfl, h1, v3, v4, rfl, h2, h3⟩ := h
  have h1 : v1 = [.int .i64 d.1] := h1
  have h2 : v3 = [.int .i64 d.2.1] := h2
  have h3 : v4 = [.int .i64 d.2.2] := h3
  subst h1 h2 h3
  rfl
theorem kdRv.mk_ (w : World) (B : Nat) (d : RvD) : kdRv.rd w B [.int .i64 d.1, .int .i64 d.2.1, .int .i64 d.2.2] d :=
  ⟨[.int .i64 d.1], [.int .i64 d.2.1, .int .i64 d.2.2], rfl, rfl, [.int .i64 d.2.1], [.int .i64 d.2.2], rfl, rfl, rfl⟩
theorem kdRv.mkOwn (w : World) (d : RvD) : kdRv.own w [.int .i64 d.1, .int .i64 d.2.1, .int .i64 d.2.2] d [] :=
  ⟨[.int .i64 d.1], [.int .i64 d.2.1, .int .i64 d.2.2], [], [], rfl, ⟨rfl, rfl⟩, ⟨[.int .i64 d.2.1], [.int .i64 d.2.2], [], [], rfl, ⟨rfl, rfl⟩, ⟨rfl, rfl⟩, rfl, by simp⟩, rfl, by simp⟩
theorem kdRv.val3 (a b c : Value) : kdRv.val [a, b, c] = .agg #[a, b, c] := rfl
def noReview : RvD := (0, 0, 0)
theorem kdRv.zero (w : World) : kdRv.own w [.int .i64 0, .int .i64 0, .int .i64 0] noReview [] := kdRv.mkOwn w noReview
theorem LR.review {w : World} {B c : Nat} {A : Option Addr} {xs : List RvD} (h : LR kdRv w B A c xs) (k : Nat) (x : RvD) (hx : xs[k]? = some x) : ∃ b off, A = some ⟨b, off, none⟩ ∧ b < B ∧ w.cell? ⟨b, off + k * 3, none⟩ = some (.int .i64 x.1) ∧ w.cell? ⟨b, off + k * 3 + 1, none⟩ = some (.int .i64 x.2.1) ∧ w.cell? ⟨b, off + k * 3 + 2, none⟩ = some (.int .i64 x.2.2) := by
  obtain ⟨b, off, cs, rfl, hb, hr, hc⟩ := h.2.2 k x hx
  obtain rfl := kdRv.open_ hr
  exact ⟨b, off, rfl, hb, hc 0 _ rfl, hc 1 _ rfl, hc 2 _ rfl⟩

theorem wtL_rv (xs : List RvD) : wtL kdRv xs = xs.length := by
  induction xs with
  | nil => rfl
  | cons z t ih => show 1 + 0 + wtL kdRv t = t.length + 1; omega
end Go.Proofs.YtnokilofcdbjhaaGreatDoor

/- Lists of lists of lists of numbers. -/
namespace Go.Proofs.YtnokilofcdbjhaaGreatDoor
open Go.RowKit Go.Sort
set_option linter.unusedVariables false

def kdLLL : Kd (List (List (List Int))) := kdList 23 kdLL
theorem info_rows : (Tryz.prog.info? 23).map (fun i => (i.zero, i.size, i.bytes)) = some (some (.slice none 0 0), 1, 24) := by kernel_rfl
theorem kdLL.zero (w : World) : kdLL.own w [.slice none 0 0] [] [] := ⟨none, 0, rfl, LO.none_⟩
theorem kdLLL.val1 (v : Value) : kdLLL.val [v] = v := rfl

end Go.Proofs.YtnokilofcdbjhaaGreatDoor

/- Names, items, sheets: what is valid, in plain words. -/
namespace Go.Proofs.YtnokilofcdbjhaaGreatDoor
set_option linter.unusedVariables false

def nameByte (b : UInt8) : Bool := (decide (65 ≤ b.toNat) && decide (b.toNat ≤ 90)) || (decide (48 ≤ b.toNat) && decide (b.toNat ≤ 57))
def nameB (s : List UInt8) : Bool := s.all nameByte && inB 1 5 s.length
def itemB (d : ItD) : Bool := d.1.all nameB && inB 1 3 d.1.length && ((d.2.1.length : Int) == (d.1.length : Int)) && d.2.1.all (inB 0 3)
def itemsB (l : List ItD) : Bool := l.all itemB && decide ((l.length : Int) ≤ 14)
def cleanB (l : List ItD) : Bool := itemsB l && l.all (fun it => it.2.1.all (inB 0 0))
abbrev ShD := List ItD × List (List (List Int)) × List RvD
def namesAt (l : List ItD) (i : Nat) : List (List UInt8) := (l.getD i ([], [], false)).1
def rowB (l : List ItD) (votes : List (List Int)) (i : Nat) : Bool := (((votes.getD i []).length : Int) == ((namesAt l i).length : Int)) && (votes.getD i []).all (inB (-1) 3)
def votesB (l : List ItD) (votes : List (List Int)) : Bool := ((votes.length : Int) == (l.length : Int)) && (List.range l.length).all (rowB l votes)
def hasName (l : List ItD) (item name : Int) : Bool := inB 0 ((l.length : Int) - 1) item && inB 0 (((namesAt l item.toNat).length : Int) - 1) name
def reviewB (l : List ItD) (r : RvD) : Bool := hasName l r.1 r.2.1 && inB 0 3 r.2.2
def sheetB (s : ShD) : Bool := cleanB s.1 && ((s.2.1.length : Int) == 3) && decide ((s.2.2.length : Int) ≤ 20) && s.2.1.all (votesB s.1) && s.2.2.all (reviewB s.1)
def rvAt (i k : Nat) (r : RvD) : Bool := (r.1 == (i : Int)) && (r.2.1 == (k : Int))
def voteAt (v : List (List Int)) (item name : Nat) : Int := (v.getD item []).getD name 0
def countV (vs : List (List (List Int))) (item name : Nat) (mark : Int) : Nat := (vs.filter (fun v => voteAt v item name == mark)).length

theorem allL_step {α : Type} {f : α → Bool} {xs : List α} {k : Nat} {x : α} (hx : xs[k]? = some x) (h : (xs.take k).all f = true) (h1 : f x = true) : (xs.take (k + 1)).all f = true := by
  obtain ⟨hk, rfl⟩ := List.getElem?_eq_some_iff.1 hx
  rw [List.take_succ_eq_append_getElem hk, List.all_append, h]
  simpa using h1
theorem allL_stop {α : Type} {f : α → Bool} {xs : List α} {k : Nat} {x : α} (hx : xs[k]? = some x) (h1 : f x = false) : xs.all f = false := by
  rw [List.all_eq_false]
  exact ⟨x, List.mem_of_getElem? hx, by simp [h1]⟩
theorem allL_end {α : Type} {f : α → Bool} {xs : List α} {k : Nat} (hk : xs.length ≤ k) (h : (xs.take k).all f = true) : xs.all f = true := by
  rwa [List.take_of_length_le hk] at h
theorem range_step {f : Nat → Bool} {k : Nat} (h : (List.range k).all f = true) (h1 : f k = true) : (List.range (k + 1)).all f = true := by
  rw [List.range_succ, List.all_append, h]
  simpa using h1
theorem range_stop {f : Nat → Bool} {k n : Nat} (hk : k < n) (h1 : f k = false) : (List.range n).all f = false := by
  rw [List.all_eq_false]
  exact ⟨k, List.mem_range.2 hk, by simp [h1]⟩
theorem namesAt_some {l : List ItD} {i : Nat} {x : ItD} (h : l[i]? = some x) : namesAt l i = x.1 := by
  unfold namesAt
  rw [List.getD_eq_getElem?_getD, h]; rfl
theorem itemB_ok {d : ItD} (h : itemB d = true) : 1 ≤ d.1.length ∧ d.1.length ≤ 3 ∧ d.2.1.length = d.1.length := by
  simp [itemB, inB] at h
  omega
theorem sheetB_votes {s : ShD} (h : sheetB s = true) : s.2.1.length = 3 := by
  simp [sheetB] at h
  omega
theorem sheetB_rows {s : ShD} (h : sheetB s = true) {v : List (List Int)} (hv : v ∈ s.2.1) : v.length = s.1.length ∧ ∀ i, i < s.1.length → (v.getD i []).length = (namesAt s.1 i).length := by
  simp only [sheetB, Bool.and_eq_true, List.all_eq_true] at h
  have h1 := h.1.2 v hv
  simp only [votesB, Bool.and_eq_true, List.all_eq_true, beq_iff_eq, rowB, List.mem_range] at h1
  refine ⟨by omega, fun i hi => ?_⟩
  have := (h1.2 i hi).1
  omega
theorem hasName_ok {l : List ItD} {item name : Int} (h : hasName l item name = true) : ∃ i k : Nat, item = i ∧ name = k ∧ i < l.length ∧ k < (namesAt l i).length := by
  simp only [hasName, inB, Bool.and_eq_true, decide_eq_true_eq] at h
  obtain ⟨⟨h1, h2⟩, h3, h4⟩ := h
  exact ⟨item.toNat, name.toNat, by omega, by omega, by omega, by omega⟩
/-- The call of the votes. -/
def voteF (vs : List (List (List Int))) (i k : Nat) : Int := if 2 ≤ countV vs i k 0 then 0 else if 2 ≤ countV vs i k 1 then 1 else if 2 ≤ countV vs i k 2 then 2 else if 2 ≤ countV vs i k 3 then 3 else -1
def voteUp (vs : List (List (List Int))) (i k : Nat) : Nat → Int
  | 0 => -1
  | q + 1 => if 2 ≤ countV vs i k (q : Int) then (q : Int) else voteUp vs i k q
/-- The last review's mark, or what was said before. -/
def revF (l : List RvD) (i k : Nat) (q : Int) : Int := match l.reverse.find? (rvAt i k) with
  | some r => r.2.2
  | none => q
def callF (s : ShD) (i k : Nat) : Int := revF s.2.2 i k (voteF s.2.1 i k)
def callOfF (s : ShD) (item name : Int) : Int × Bool := if sheetB s && hasName s.1 item name && decide (0 ≤ callF s item.toNat name.toNat) then (callF s item.toNat name.toNat, true) else (0, false)
theorem countV_succ {vs : List (List (List Int))} {j : Nat} {v : List (List Int)} (h : vs[j]? = some v) (i k : Nat) (m : Int) : countV (vs.take (j + 1)) i k m = countV (vs.take j) i k m + (if voteAt v i k == m then 1 else 0) := by
  obtain ⟨hj, rfl⟩ := List.getElem?_eq_some_iff.1 h
  unfold countV
  rw [List.take_succ_eq_append_getElem hj, List.filter_append, List.length_append]
  congr 1
  by_cases hm : voteAt vs[j] i k == m <;> simp [hm]
theorem countV_le (vs : List (List (List Int))) (i k : Nat) (m : Int) : countV vs i k m ≤ vs.length := List.length_filter_le ..
theorem countV_sum (vs : List (List (List Int))) (i k : Nat) : countV vs i k 0 + countV vs i k 1 + countV vs i k 2 + countV vs i k 3 ≤ vs.length := by
  induction vs with
  | nil => simp [countV]
  | cons v t ih =>
    have h : ∀ m, countV (v :: t) i k m = (if voteAt v i k == m then 1 else 0) + countV t i k m := by
      intro m
      unfold countV
      rw [List.filter_cons]
      split <;> simp [*]
      omega
    rw [h 0, h 1, h 2, h 3]
    simp only [beq_iff_eq, List.length_cons]
    repeat' split
    all_goals omega
theorem voteUp_four {vs : List (List (List Int))} (hl : vs.length = 3) (i k : Nat) : voteUp vs i k 4 = voteF vs i k := by
  have h := countV_sum vs i k
  have e : voteUp vs i k 4 = if 2 ≤ countV vs i k 3 then 3 else if 2 ≤ countV vs i k 2 then 2 else if 2 ≤ countV vs i k 1 then 1 else if 2 ≤ countV vs i k 0 then 0 else -1 := rfl
  rw [e]
  unfold voteF
  repeat' split
  all_goals first | rfl | omega
theorem revF_step {l : List RvD} {j : Nat} {r : RvD} (h : l[j]? = some r) (i k : Nat) (q : Int) : revF (l.take (j + 1)) i k q = if rvAt i k r = true then r.2.2 else revF (l.take j) i k q := by
  obtain ⟨hj, rfl⟩ := List.getElem?_eq_some_iff.1 h
  unfold revF
  rw [List.take_succ_eq_append_getElem hj, List.reverse_append]
  simp only [List.reverse_cons, List.reverse_nil, List.nil_append, List.singleton_append, List.find?_cons]
  cases rvAt i k l[j] <;> simp
end Go.Proofs.YtnokilofcdbjhaaGreatDoor

/- Sheets: weighed, copied, compared; as a kind. -/
namespace Go.Proofs.YtnokilofcdbjhaaGreatDoor
open Go.RowKit Go.Sort
set_option linter.unusedVariables false

end Go.Proofs.YtnokilofcdbjhaaGreatDoor

/- Names and items: what the program and the reference call valid. -/
namespace Go.Proofs.YtnokilofcdbjhaaGreatDoor
open Go.RowKit Go.Sort
set_option linter.unusedVariables false

theorem bs_get (x : List UInt8) (k : Nat) (h : k < (bs x).size) (y : UInt8) (hy : x[k]? = some y) : (bs x)[k]'h = y := by
  obtain ⟨hk, rfl⟩ := List.getElem?_eq_some_iff.1 hy
  rfl
end Go.Proofs.YtnokilofcdbjhaaGreatDoor

/- Items and lists of items: what the program and the reference call valid. -/
namespace Go.Proofs.YtnokilofcdbjhaaGreatDoor
open Go.RowKit Go.Sort
set_option linter.unusedVariables false

theorem kdItem.wt_le {d : ItD} (h : kdItem.wt d ≤ 1048576) : d.1.length ≤ 1048576 ∧ d.2.1.length ≤ 1048576 ∧ ∀ x ∈ d.1, x.length ≤ 1048576 := by
  rw [kdItem.wt_eq] at h
  have h1 := wtL_len kdS d.1
  have h2 : kdSS.wt d.1 = wtL kdS d.1 := rfl
  have h3 : kdL.wt d.2.1 = d.2.1.length := wtL_int _
  refine ⟨by omega, by omega, fun x hx => ?_⟩
  obtain ⟨k, hk⟩ := List.getElem?_of_mem hx
  have h4 := wtL_at kdS d.1 k x hk
  have h5 : kdS.wt x = x.length := rfl
  omega

end Go.Proofs.YtnokilofcdbjhaaGreatDoor
