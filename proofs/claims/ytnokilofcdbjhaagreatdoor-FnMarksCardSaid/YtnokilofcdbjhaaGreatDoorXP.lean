/- The text of marks read by the program: plain laws. -/
import Derived.Test.YtnokilofcdbjhaaGreatDoorXM
import Derived.Test.YtnokilofcdbjhaaGreatDoorXO
namespace Go.Proofs.YtnokilofcdbjhaaGreatDoor
open Go.RowKit Go.Sort
set_option linter.unusedVariables false

theorem join_lines {b : UInt8} {ls : List (List UInt8)} (h : ls ≠ []) : joinX b ls ++ [b] = ls.flatMap (· ++ [b]) := by
  cases ls with
  | nil => exact absurd rfl h
  | cons x t =>
    show x ++ t.flatMap (fun y => b :: y) ++ [b] = _
    rw [List.flatMap_cons, List.append_assoc, List.append_assoc]
    congr 1
    clear h
    induction t with
    | nil => rfl
    | cons y u ih =>
      rw [List.flatMap_cons, List.flatMap_cons, List.append_assoc, ih]
      simp
theorem linesF_some {s : List UInt8} {ls : List (List UInt8)} (h : linesF s = some ls) : s = ls.flatMap (· ++ [10]) := by
  unfold linesF at h
  split at h
  · next e => cases h; rw [e]; rfl
  · next e =>
    split at h
    · next e2 =>
      cases h
      rw [← join_lines (splitX_ne _ _), join_splitX]
      have := List.dropLast_concat_getLast e
      rw [List.getLastD_eq_getLast?, List.getLast?_eq_some_getLast e, Option.getD_some] at e2
      rw [e2] at this
      exact this.symm
    · cases h
theorem linesX_pos {m : MD} (h : marksB m = true) : linesX m ≠ [] := by
  intro e
  have := congrArg List.length e
  simp only [linesX, List.length_append, List.length_map, List.length_nil] at this
  have := (marksB_ok h).2.1
  omega
theorem linesF_text {m : MD} (h : marksB m = true) : linesF (marksT m) = some (linesX m) := by
  have hne := linesX_pos h
  have e : marksT m = joinX 10 (linesX m) ++ [10] := by rw [marksT_lines, join_lines hne]
  have h0 : marksT m ≠ [] := by rw [e]; simp
  unfold linesF
  rw [if_neg h0, if_pos (by rw [e, List.getLastD_eq_getLast?]; simp)]
  have : splitX 10 (marksT m).dropLast = linesX m := by
    rw [e, List.dropLast_concat]
    cases hl : linesX m with
    | nil => exact absurd hl hne
    | cons x t =>
      have hn := linesX_no10 m
      rw [hl] at hn
      exact splitX_words (hn x (by simp)) (fun y hy => hn y (by simp [hy]))
  rw [this]
theorem linesF_none {s : List UInt8} (h : linesF s = none) : parseF s = (([], []), false) :=
  parseF_none fun m hm e => by rw [← e, linesF_text hm] at h; cases h
theorem linesX_n {m : MD} (h : marksB m = true) : 3 ≤ (linesX m).length ∧ (linesX m).length ≤ 17 ∧ (linesX m).length = m.1.length + 3 := by
  have a := marksB_ok h
  simp only [linesX, List.length_append, List.length_map]
  omega
theorem lines_bad {s : List UInt8} {ls : List (List UInt8)} (h : linesF s = some ls) (hb : ls.length < 3 ∨ 17 < ls.length) : parseF s = (([], []), false) :=
  parseF_none fun m hm e => by
    rw [← e, linesF_text hm] at h
    cases h
    have := linesX_n hm
    omega
/-- Line k of a text that can be read. -/
theorem lines_at {s : List UInt8} {ls : List (List UInt8)} (h : linesF s = some ls) {m : MD} (hm : marksB m = true) (e : marksT m = s) {k : Nat} {x : List UInt8} (hx : ls[k]? = some x) :
    ∃ r : List Int, (∀ z ∈ r, z.natAbs < 1000000000000) ∧ splitX 32 x = [if k < ls.length - 3 then 103 else 99] :: r.map Lib.itoa := by
  rw [← e, linesF_text hm] at h
  cases h
  have hl := linesX_n hm
  have sm := marksB_small hm
  by_cases hk : k < m.1.length
  · rw [if_pos (by omega)]
    rw [linesX, List.getElem?_append_left (by simpa using hk), List.getElem?_map] at hx
    cases hr : m.1[k]? with
    | none => rw [hr] at hx; cases hx
    | some r =>
      rw [hr] at hx
      cases hx
      exact ⟨r, sm.1 r (List.mem_of_getElem? hr), lineX_words (by decide) r⟩
  · rw [if_neg (by omega)]
    rw [linesX, List.getElem?_append_right (by simpa using hk), List.getElem?_map] at hx
    cases hr : m.2[k - (m.1.map (lineX 103)).length]? with
    | none => rw [hr] at hx; cases hx
    | some r =>
      rw [hr] at hx
      cases hx
      exact ⟨r, sm.2 r (List.mem_of_getElem? hr), lineX_words (by decide) r⟩
/-- A line that does not fit. -/
theorem line_bad {s : List UInt8} {ls : List (List UInt8)} (h : linesF s = some ls) {k : Nat} {x : List UInt8} (hx : ls[k]? = some x) {hd : List UInt8} {t : List (List UInt8)} (hs : splitX 32 x = hd :: t)
    (hb : listI t = none ∨ (hd ≠ [103] ∧ hd ≠ [99]) ∨ (hd = [103] ∧ ¬ k < ls.length - 3) ∨ (hd = [99] ∧ k < ls.length - 3)) : parseF s = (([], []), false) :=
  parseF_none fun m hm e => by
    obtain ⟨r, hr, h2⟩ := lines_at h hm e hx
    rw [hs] at h2
    have e1 := (List.cons.inj h2).1
    have e2 := (List.cons.inj h2).2
    rcases hb with hb | ⟨a, b⟩ | ⟨a, b⟩ | ⟨a, b⟩
    · rw [e2, listI_itoa hr] at hb; cases hb
    · split at e1
      · exact a e1
      · exact b e1
    · rw [if_neg b, a] at e1; cases e1
    · rw [if_pos b, a] at e1; cases e1
theorem line_of {h : UInt8} {x : List UInt8} {t : List (List UInt8)} {zs : List Int} (hs : splitX 32 x = [h] :: t) (ht : listI t = some zs) : x = lineX h zs := by
  have e := join_splitX 32 x
  rw [hs, listI_map ht] at e
  rw [← e, lineX, wordsX]
  show [h] ++ (zs.map Lib.itoa).flatMap (fun y => 32 :: y) = _
  rw [List.flatMap_map]
  rfl
theorem listI_small {t : List (List UInt8)} {zs : List Int} (h : listI t = some zs) : ∀ z ∈ zs, z.natAbs < 1000000000000 := by
  induction t generalizing zs with
  | nil => cases h; simp
  | cons y u ih =>
    rw [listI] at h
    cases hy : intI y with
    | none => rw [hy] at h; cases h
    | some z =>
      cases hu : listI u with
      | none => rw [hy, hu] at h; cases h
      | some v =>
        rw [hy, hu] at h
        cases h
        intro a ha
        rcases List.mem_cons.1 ha with rfl | ha
        · unfold intI at hy
          split at hy
          · next r =>
            cases hn : natI r with
            | none => rw [hn] at hy; cases hy
            | some n =>
              rw [hn, Option.bind_some] at hy
              have := natI_lt hn
              split at hy
              · cases hy
              · cases hy; omega
          · cases hn : natI y with
            | none => rw [hn] at hy; cases hy
            | some n =>
              rw [hn] at hy
              cases hy
              have := natI_lt hn
              show ((n : Int)).natAbs < _
              omega
        · exact ih hu a ha
theorem lineX_len (h : UInt8) (l : List Int) : l.length + 1 ≤ (lineX h l).length := by
  unfold lineX wordsX
  rw [List.length_cons]
  have : l.length ≤ (l.flatMap (fun n => 32 :: Lib.itoa n)).length := by
    induction l with
    | nil => simp
    | cons x r ih => rw [List.flatMap_cons, List.length_append, List.length_cons, List.length_cons]; omega
  omega
theorem lines_wt (h : UInt8) (l : List (List Int)) : wtL kdL l ≤ ((l.map (lineX h)).flatMap (· ++ [10])).length := by
  induction l with
  | nil => simp [wtL]
  | cons x r ih =>
    have h1 := lineX_len h x
    have h2 : kdL.wt x = x.length := wtL_int x
    rw [wtL, h2, List.map_cons, List.flatMap_cons, List.length_append, List.length_append, List.length_singleton]
    omega
theorem lines_ok {s : List UInt8} {d : MD} (h : s = (linesX d).flatMap (· ++ [10])) (hs : s.length ≤ 1048576) : kM.ok d := by
  have a := lines_wt 103 d.1
  have b := lines_wt 99 d.2
  have e : kM.wt d = wtL kdL d.1 + wtL kdL d.2 := rfl
  show kM.wt d ≤ 1048576
  rw [linesX, List.flatMap_append] at h
  rw [h, List.length_append] at hs
  omega
theorem lines_le {s : List UInt8} {ls : List (List UInt8)} (h : s = ls.flatMap (· ++ [10])) {x : List UInt8} (hx : x ∈ ls) : x.length ≤ s.length := by
  subst h
  induction ls with
  | nil => cases hx
  | cons y t ih =>
    rw [List.flatMap_cons, List.length_append, List.length_append]
    rcases List.mem_cons.1 hx with rfl | hx
    · omega
    · have := ih hx; omega
/-- What was read in is what the text says. -/
theorem parse_end {s : List UInt8} {ls : List (List UInt8)} (h : linesF s = some ls) {d : MD} (hd : linesX d = ls) (h3 : d.2.length = 3) (hs : SmallR d.1 ∧ SmallR d.2) : parseF s = (if marksB d then (d, true) else (([], []), false)) := by
  have e : marksT d = s := by rw [marksT_lines, hd, ← linesF_some h]
  cases hb : marksB d
  · rw [if_neg (by simp)]
    refine parseF_none fun m hm e2 => ?_
    rw [← e2, linesF_text hm] at h
    have := linesX_inj (marksB_small hm) hs (by rw [h3, (marksB_ok hm).2.1]) ((Option.some.inj h).trans hd.symm)
    rw [← this, hm] at hb
    cases hb
  · rw [if_pos rfl]
    exact parseF_some hb e
end Go.Proofs.YtnokilofcdbjhaaGreatDoor
