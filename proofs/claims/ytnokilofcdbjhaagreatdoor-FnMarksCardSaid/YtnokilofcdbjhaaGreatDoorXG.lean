/- The text of marks read back: plain laws on lists of bytes. -/
import Derived.Test.YtnokilofcdbjhaaGreatDoorXA
namespace Go.Proofs.YtnokilofcdbjhaaGreatDoor
open Go.RowKit Go.Sort
set_option linter.unusedVariables false

/-! ### Splitting at a byte -/
def consX (c : UInt8) : List (List UInt8) → List (List UInt8)
  | [] => [[c]]
  | h :: t => (c :: h) :: t
def splitX (b : UInt8) : List UInt8 → List (List UInt8)
  | [] => [[]]
  | c :: r => if c = b then [] :: splitX b r else consX c (splitX b r)
theorem splitX_ne (b : UInt8) (l : List UInt8) : splitX b l ≠ [] := by
  cases l with
  | nil => simp [splitX]
  | cons c r =>
    unfold splitX
    split
    · simp
    · cases splitX b r <;> simp [consX]
theorem splitX_none {b : UInt8} {l : List UInt8} (h : b ∉ l) : splitX b l = [l] := by
  induction l with
  | nil => rfl
  | cons c r ih =>
    have hc : c ≠ b := fun e => h (by simp [e])
    rw [splitX, if_neg hc, ih (fun hm => h (by simp [hm]))]
    rfl
theorem splitX_app {b : UInt8} {x : List UInt8} (h : b ∉ x) (r : List UInt8) : splitX b (x ++ b :: r) = x :: splitX b r := by
  induction x with
  | nil => simp [splitX]
  | cons c x ih =>
    have hc : c ≠ b := fun e => h (by simp [e])
    rw [List.cons_append, splitX, if_neg hc, ih (fun hm => h (by simp [hm]))]
    rfl
/-- The pieces, put together again. -/
def joinX (b : UInt8) : List (List UInt8) → List UInt8
  | [] => []
  | h :: t => h ++ t.flatMap (fun x => b :: x)
theorem joinX_cons (b c : UInt8) (ls : List (List UInt8)) (h : ls ≠ []) : joinX b (consX c ls) = c :: joinX b ls := by
  cases ls with
  | nil => exact absurd rfl h
  | cons x t => rfl
theorem joinX_nil (b : UInt8) (ls : List (List UInt8)) (h : ls ≠ []) : joinX b ([] :: ls) = b :: joinX b ls := by
  cases ls with
  | nil => exact absurd rfl h
  | cons x t => simp [joinX]
theorem join_splitX (b : UInt8) (l : List UInt8) : joinX b (splitX b l) = l := by
  induction l with
  | nil => rfl
  | cons c r ih =>
    unfold splitX
    split
    · next e => subst e; rw [joinX_nil _ _ (splitX_ne _ _), ih]
    · rw [joinX_cons _ _ _ (splitX_ne _ _), ih]
theorem splitX_lines {b : UInt8} {ls : List (List UInt8)} (h : ∀ x ∈ ls, b ∉ x) : splitX b (ls.flatMap (· ++ [b])) = ls ++ [[]] := by
  induction ls with
  | nil => rfl
  | cons x t ih =>
    rw [List.flatMap_cons, List.append_assoc, List.singleton_append, splitX_app (h x (by simp)), ih (fun y hy => h y (by simp [hy]))]
    rfl
theorem splitX_words {b : UInt8} {x : List UInt8} {ls : List (List UInt8)} (hx : b ∉ x) (h : ∀ y ∈ ls, b ∉ y) : splitX b (x ++ ls.flatMap (fun y => b :: y)) = x :: ls := by
  induction ls generalizing x with
  | nil => simp [splitX_none hx]
  | cons y t ih =>
    rw [List.flatMap_cons, List.cons_append, splitX_app hx, ih (h y (by simp)) (fun z hz => h z (by simp [hz]))]
theorem splitX_count (b : UInt8) (l : List UInt8) : (splitX b l).length = l.count b + 1 := by
  induction l with
  | nil => rfl
  | cons c r ih =>
    unfold splitX
    split
    · next e => subst e; rw [List.length_cons, ih, List.count_cons_self]
    · next e =>
      rw [List.count_cons_of_ne e, ← ih]
      cases hs : splitX b r with
      | nil => exact absurd hs (splitX_ne _ _)
      | cons x t => rfl
theorem splitX_not (b : UInt8) (l : List UInt8) : ∀ x ∈ splitX b l, b ∉ x := by
  induction l with
  | nil => simp [splitX]
  | cons c r ih =>
    intro x hx
    unfold splitX at hx
    split at hx
    · rcases List.mem_cons.1 hx with rfl | hx
      · simp
      · exact ih x hx
    · next hc =>
      cases hs : splitX b r with
      | nil => exact absurd hs (splitX_ne _ _)
      | cons y t =>
        rw [hs] at hx ih
        rcases List.mem_cons.1 hx with rfl | hx
        · have := ih y (by simp)
          simp only [List.mem_cons, not_or]
          exact ⟨fun e => hc e.symm, this⟩
        · exact ih x (by simp [hx])

/-! ### Numbers -/
def isDg (c : UInt8) : Bool := decide (48 ≤ c) && decide (c ≤ 57)
def valX (l : List UInt8) : Nat := l.foldl (fun n c => 10 * n + (c.toNat - 48)) 0
theorem dg_ofNat {k : Nat} (h : k < 10) : isDg (UInt8.ofNat (48 + k)) = true ∧ (UInt8.ofNat (48 + k)).toNat = 48 + k := by
  have e : (UInt8.ofNat (48 + k)).toNat = 48 + k := by
    rw [UInt8.toNat_ofNat']
    omega
  refine ⟨?_, e⟩
  simp only [isDg, Bool.and_eq_true, decide_eq_true_eq, UInt8.le_iff_toNat_le, e]
  have a : (48 : UInt8).toNat = 48 := rfl
  have b : (57 : UInt8).toNat = 57 := rfl
  omega
theorem decDigits_facts (k : Nat) : (Lib.decDigits k).all isDg = true ∧ valX (Lib.decDigits k) = k ∧ Lib.decDigits k ≠ [] ∧ (1 < (Lib.decDigits k).length → (Lib.decDigits k).headD 0 ≠ 48 ∧ 1 ≤ k) := by
  induction k using Nat.strongRecOn with
  | _ k ih =>
    rw [Lib.decDigits]
    split
    · next h =>
      obtain ⟨a, b⟩ := dg_ofNat h
      refine ⟨by simpa using a, by simp only [valX, List.foldl_cons, List.foldl_nil]; rw [b]; omega, by simp, fun h2 => by simp at h2⟩
    · next h =>
      obtain ⟨i1, i2, i3, i4⟩ := ih (k / 10) (by omega)
      obtain ⟨a, b⟩ := dg_ofNat (show k % 10 < 10 by omega)
      refine ⟨by rw [List.all_append, i1]; simpa using a, ?_, by simp, fun _ => ⟨?_, by omega⟩⟩
      · have : valX (Lib.decDigits (k / 10) ++ [UInt8.ofNat (48 + k % 10)]) = 10 * valX (Lib.decDigits (k / 10)) + ((UInt8.ofNat (48 + k % 10)).toNat - 48) := by simp [valX]
        rw [this, i2, b]
        omega
      · cases hd : Lib.decDigits (k / 10) with
        | nil => exact absurd hd i3
        | cons c t =>
          rw [List.cons_append]
          show c ≠ 48
          intro e
          by_cases ht : 1 < (Lib.decDigits (k / 10)).length
          · have := (i4 ht).1
            rw [hd] at this
            exact this e
          · rw [hd] at ht
            have ht0 : t = [] := by cases t with
              | nil => rfl
              | cons _ _ => simp at ht
            rw [hd, ht0, e] at i2
            have : valX [48] = 0 := rfl
            omega
theorem valX_snoc (l : List UInt8) (c : UInt8) : valX (l ++ [c]) = 10 * valX l + (c.toNat - 48) := by simp [valX]
/-- Canonical digits are their number's numeral. -/
theorem decDigits_val : ∀ (l : List UInt8), l ≠ [] → l.all isDg = true → (1 < l.length → l.headD 0 ≠ 48) → Lib.decDigits (valX l) = l := by
  intro l
  induction hn : l.length using Nat.strongRecOn generalizing l with
  | _ n ih =>
    intro hne hall hh
    rcases List.eq_nil_or_concat l with e | ⟨r, c, e⟩
    · exact absurd e hne
    · rw [List.concat_eq_append] at e
      subst e
      rw [List.all_append, Bool.and_eq_true] at hall
      have hc : isDg c = true := by simpa using hall.2
      simp only [isDg, Bool.and_eq_true, decide_eq_true_eq, UInt8.le_iff_toNat_le] at hc
      have a : (48 : UInt8).toNat = 48 := rfl
      have b : (57 : UInt8).toNat = 57 := rfl
      rw [a, b] at hc
      have hcv : UInt8.ofNat (48 + (c.toNat - 48)) = c := by
        rw [show 48 + (c.toNat - 48) = c.toNat by omega]
        simp
      rw [valX_snoc]
      by_cases hr : r = []
      · subst hr
        have e1 : 10 * valX [] + (c.toNat - 48) = c.toNat - 48 := by simp [valX]
        rw [e1, Lib.decDigits, dif_pos (by omega), hcv]
        rfl
      · have hrl : r.length < n := by rw [← hn]; simp
        have hhr : ∀ (_ : 1 < (r ++ [c]).length), r.headD 0 ≠ 48 := fun h => by
          have := hh (by omega)
          cases r with
          | nil => exact absurd rfl hr
          | cons x t => exact this
        have hlen : 1 < (r ++ [c]).length := by
          cases r with
          | nil => exact absurd rfl hr
          | cons x t => simp
        have ih' := ih r.length hrl r rfl hr hall.1 (fun _ => hhr hlen)
        have hpos : 1 ≤ valX r := by
          rcases Nat.eq_zero_or_pos (valX r) with e0 | h
          · exfalso
            rw [e0] at ih'
            have : Lib.decDigits 0 = [48] := by rw [Lib.decDigits]; rfl
            rw [this] at ih'
            exact hhr hlen (by rw [← ih']; rfl)
          · exact h
        rw [Lib.decDigits, dif_neg (by omega), show (10 * valX r + (c.toNat - 48)) / 10 = valX r by omega, show (10 * valX r + (c.toNat - 48)) % 10 = c.toNat - 48 by omega, ih', hcv]
/-- A digit is no sign, no blank, no end of a line. -/
theorem dg_not {c : UInt8} (h : isDg c = true) : c ≠ 45 ∧ c ≠ 32 ∧ c ≠ 10 := by
  simp only [isDg, Bool.and_eq_true, decide_eq_true_eq, UInt8.le_iff_toNat_le] at h
  have a : (48 : UInt8).toNat = 48 := rfl
  rw [a] at h
  refine ⟨?_, ?_, ?_⟩ <;> (rintro rfl; have := h.1; simp at this)
theorem decDigits_not (k : Nat) : ∀ c ∈ Lib.decDigits k, c ≠ 45 ∧ c ≠ 32 ∧ c ≠ 10 := fun c hc => dg_not (List.all_eq_true.1 (decDigits_facts k).1 c hc)
theorem itoa_not (n : Int) : (32 : UInt8) ∉ Lib.itoa n ∧ (10 : UInt8) ∉ Lib.itoa n := by
  unfold Lib.itoa
  split
  · refine ⟨fun h => ?_, fun h => ?_⟩
    · rcases List.mem_cons.1 h with e | e
      · exact absurd e (by decide)
      · exact (decDigits_not _ _ e).2.1 rfl
    · rcases List.mem_cons.1 h with e | e
      · exact absurd e (by decide)
      · exact (decDigits_not _ _ e).2.2 rfl
  · exact ⟨fun h => (decDigits_not _ _ h).2.1 rfl, fun h => (decDigits_not _ _ h).2.2 rfl⟩
theorem decDigits_log {k n : Nat} (h : k < 10 ^ (n + 1)) : (Lib.decDigits k).length ≤ n + 1 := by
  induction n generalizing k with
  | zero => rw [Lib.decDigits, dif_pos (by simpa using h)]; simp
  | succ n ih =>
    rw [Lib.decDigits]
    split
    · simp
    · have := ih (k := k / 10) (by rw [Nat.pow_succ] at h; omega)
      simp only [List.length_append, List.length_cons, List.length_nil]
      omega
theorem valX_lt (l : List UInt8) (h : l.all isDg = true) : valX l < 10 ^ l.length := by
  induction hn : l.length generalizing l with
  | zero => have := List.eq_nil_of_length_eq_zero hn; subst this; simp [valX]
  | succ n ih =>
    rcases List.eq_nil_or_concat l with e | ⟨r, c, e⟩
    · subst e; simp at hn
    · rw [List.concat_eq_append] at e
      subst e
      rw [List.all_append, Bool.and_eq_true] at h
      have hc : isDg c = true := by simpa using h.2
      simp only [isDg, Bool.and_eq_true, decide_eq_true_eq, UInt8.le_iff_toNat_le] at hc
      have b : (57 : UInt8).toNat = 57 := rfl
      rw [b] at hc
      have hl : r.length = n := by simpa using hn
      have := ih r h.1 hl
      rw [valX_snoc, Nat.pow_succ]
      omega

/-! ### What the program reads as a number, and what the reference does -/
def plainX (most : Nat) (l : List UInt8) : Bool := decide (l ≠ []) && decide (l.length ≤ most) && (decide (l.length ≤ 1) || decide (l.headD 0 ≠ 48)) && l.all isDg
theorem plainX_iff {most : Nat} {l : List UInt8} (h : plainX most l = true) : Lib.decDigits (valX l) = l ∧ l.length ≤ most := by
  simp only [plainX, Bool.and_eq_true, Bool.or_eq_true, decide_eq_true_eq] at h
  exact ⟨decDigits_val l h.1.1.1 h.2 (fun h1 => h.1.2.resolve_left (by omega)), h.1.1.2⟩
theorem plainX_dec {most k : Nat} (h : (Lib.decDigits k).length ≤ most) : plainX most (Lib.decDigits k) = true := by
  obtain ⟨a, b, c, d⟩ := decDigits_facts k
  simp only [plainX, Bool.and_eq_true, Bool.or_eq_true, decide_eq_true_eq]
  refine ⟨⟨⟨c, h⟩, ?_⟩, a⟩
  rcases Nat.lt_or_ge 1 (Lib.decDigits k).length with h1 | h1
  · exact .inr (d h1).1
  · exact .inl h1
def natI (l : List UInt8) : Option Nat := if plainX 12 l then some (valX l) else none
def intI (l : List UInt8) : Option Int :=
  match l with
  | 45 :: r => (natI r).bind fun n => if n = 0 then none else some (-(n : Int))
  | _ => Option.map (fun n : Nat => (n : Int)) (natI l)
def readS (l : List UInt8) : Int := if plainX 6 l then (valX l : Int) else -1
def numS (l : List UInt8) : Int :=
  match l with
  | 45 :: c :: r => if 0 ≤ readS (c :: r) then -readS (c :: r) else 9999
  | _ => if 0 ≤ readS l then readS l else 9999
theorem natI_some {l : List UInt8} {n : Nat} (h : natI l = some n) : l = Lib.decDigits n := by
  unfold natI at h
  split at h
  · next hp => cases h; exact (plainX_iff hp).1.symm
  · cases h
theorem natI_dec {n : Nat} (h : n < 1000000000000) : natI (Lib.decDigits n) = some n := by
  unfold natI
  rw [if_pos (plainX_dec (decDigits_log (n := 11) (by simpa using h))), (decDigits_facts n).2.1]
theorem not_minus {l : List UInt8} {k : Nat} (h : l = Lib.decDigits k) (r : List UInt8) : l ≠ 45 :: r := by
  rintro rfl
  exact (decDigits_not k 45 (by rw [← h]; simp)).1 rfl
theorem intI_plain {l : List UInt8} (h : ∀ r, l ≠ 45 :: r) : intI l = Option.map (fun n : Nat => (n : Int)) (natI l) := by
  unfold intI
  split
  · next r => exact absurd rfl (h r)
  · rfl
theorem intI_some {l : List UInt8} {z : Int} (h : intI l = some z) : l = Lib.itoa z := by
  unfold intI at h
  split at h
  · next r =>
    cases hn : natI r with
    | none => rw [hn] at h; cases h
    | some n =>
      rw [hn, Option.bind_some] at h
      split at h
      · cases h
      · next h0 =>
        cases h
        rw [Lib.itoa, if_pos (by omega), natI_some hn, show (-(n : Int)).natAbs = n by omega]
  · cases hn : natI l with
    | none => rw [hn] at h; cases h
    | some n =>
      rw [hn, Option.map_some] at h
      cases h
      rw [Lib.itoa, if_neg (by omega), Int.toNat_natCast, ← natI_some hn]
theorem intI_itoa {z : Int} (h : z.natAbs < 1000000000000) : intI (Lib.itoa z) = some z := by
  unfold Lib.itoa
  split
  · next hz =>
    show ((natI (Lib.decDigits z.natAbs)).bind fun n => if n = 0 then none else some (-(n : Int))) = _
    rw [natI_dec h, Option.bind_some, if_neg (by omega)]
    congr 1; omega
  · next hz =>
    rw [intI_plain (not_minus rfl), natI_dec (by omega), Option.map_some]
    congr 1; omega
theorem itoa_inj {a b : Int} (ha : a.natAbs < 1000000000000) (h : Lib.itoa a = Lib.itoa b) (hb : b.natAbs < 1000000000000) : a = b := by
  have := intI_itoa ha
  rw [h, intI_itoa hb] at this
  exact (Option.some.inj this).symm
theorem readS_dec {n : Nat} (h : n < 1000000) : readS (Lib.decDigits n) = n := by
  unfold readS
  rw [if_pos (plainX_dec (decDigits_log (n := 5) (by simpa using h))), (decDigits_facts n).2.1]
theorem numS_itoa {z : Int} (h : z.natAbs < 1000000) : numS (Lib.itoa z) = z := by
  unfold Lib.itoa
  split
  · next hz =>
    cases hd : Lib.decDigits z.natAbs with
    | nil => exact absurd hd (decDigits_facts _).2.2.1
    | cons c r =>
      show (if 0 ≤ readS (c :: r) then -readS (c :: r) else 9999) = _
      rw [← hd, readS_dec h, if_pos (by omega)]
      omega
  · next hz =>
    have hnm := not_minus (k := z.toNat) rfl
    unfold numS
    split
    · next c r h2 => exact absurd h2 (hnm _)
    · rw [readS_dec (by omega), if_pos (by omega)]
      omega
end Go.Proofs.YtnokilofcdbjhaaGreatDoor
