/- The text of marks read by the reference: plain laws. -/
import Derived.Test.YtnokilofcdbjhaaGreatDoorXQ
import Derived.Test.YtnokilofcdbjhaaGreatDoorXN
namespace Go.Proofs.YtnokilofcdbjhaaGreatDoor
open Go.RowKit Go.Sort
set_option linter.unusedVariables false

def rowS (h : List UInt8) (x : List UInt8) : Option (List Int) := if (splitX 32 x).headD [] = h then some ((splitX 32 x).tail.map numS) else none
def rowsS (h : List UInt8) (ls : List (List UInt8)) : List (List Int) := ls.filterMap (rowS h)
theorem rowsS_yes {h : List UInt8} {ls : List (List UInt8)} {k : Nat} {x : List UInt8} {hd : List UInt8} {t : List (List UInt8)} (hx : ls[k]? = some x) (hs : splitX 32 x = hd :: t) (he : hd = h) : rowsS h (ls.take (k + 1)) = rowsS h (ls.take k) ++ [t.map numS] := by
  unfold rowsS
  rw [List.take_add_one, hx, List.filterMap_append]
  congr 1
  show List.filterMap (rowS h) [x] = _
  rw [List.filterMap_cons_some (by rw [rowS, hs]; exact if_pos he)]
  rfl
theorem rowsS_no {h : List UInt8} {ls : List (List UInt8)} {k : Nat} {x : List UInt8} {hd : List UInt8} {t : List (List UInt8)} (hx : ls[k]? = some x) (hs : splitX 32 x = hd :: t) (he : hd ≠ h) : rowsS h (ls.take (k + 1)) = rowsS h (ls.take k) := by
  unfold rowsS
  rw [List.take_add_one, hx, List.filterMap_append]
  show _ ++ List.filterMap (rowS h) [x] = _
  rw [List.filterMap_cons_none (by rw [rowS, hs]; exact if_neg he)]
  simp
theorem rowsS_lines {c : UInt8} (hc : c ≠ 32) {l : List (List Int)} (h : ∀ r ∈ l, ∀ z ∈ r, z.natAbs < 1000000) : rowsS [c] (l.map (lineX c)) = l := by
  induction l with
  | nil => rfl
  | cons r t ih =>
    rw [List.map_cons, rowsS, List.filterMap_cons_some (b := r) ?_, ← rowsS, ih (fun y hy => h y (by simp [hy]))]
    rw [rowS, lineX_words hc, List.headD_cons, if_pos rfl, List.tail_cons]
    congr 1
    have hr := h r (by simp)
    clear ih h
    induction r with
    | nil => rfl
    | cons z u ih2 => rw [List.map_cons, List.map_cons, numS_itoa (hr z (by simp)), ih2 (fun y hy => hr y (by simp [hy]))]
theorem rowsS_other {c d : UInt8} (hc : c ≠ 32) (hn : c ≠ d) (l : List (List Int)) : rowsS [d] (l.map (lineX c)) = [] := by
  induction l with
  | nil => rfl
  | cons r t ih =>
    rw [List.map_cons, rowsS, List.filterMap_cons_none, ← rowsS, ih]
    rw [rowS, lineX_words hc, List.headD_cons, if_neg (fun e => hn (List.cons.inj e).1)]
theorem rowsS_app (h : List UInt8) (a b : List (List UInt8)) : rowsS h (a ++ b) = rowsS h a ++ rowsS h b := List.filterMap_append
theorem rowsS_empty (c : UInt8) : rowsS [c] [[]] = [] := rfl
/-- A text that can be read is read as what it says. -/
theorem rowsS_text {m : MD} (h : marksB m = true) : rowsS [103] (splitX 10 (marksT m)) = m.1 ∧ rowsS [99] (splitX 10 (marksT m)) = m.2 := by
  have r1 := marksB_ok h
  have s1 : ∀ r ∈ m.1, ∀ z ∈ r, z.natAbs < 1000000 := fun r hr z hz => by have := (r1.2.2.2.2.1 r hr).2 z hz; omega
  have s2 : ∀ r ∈ m.2, ∀ z ∈ r, z.natAbs < 1000000 := fun r hr z hz => by have := (r1.2.2.2.2.2 r hr).2 z hz; omega
  rw [marksT_split]
  unfold linesX
  refine ⟨?_, ?_⟩
  · rw [rowsS_app, rowsS_app, rowsS_lines (by decide) s1, rowsS_other (by decide) (by decide), rowsS_empty]; simp
  · rw [rowsS_app, rowsS_app, rowsS_lines (by decide) s2, rowsS_other (by decide) (by decide), rowsS_empty]; simp
theorem parseS_long {s : List UInt8} (h : 18 < (splitX 10 s).length) : parseF s = (([], []), false) :=
  parseF_none fun m hm e => by
    rw [← e, marksT_split, List.length_append] at h
    have := linesX_n hm
    simp at h
    omega
theorem parseS_no {s : List UInt8} (h : marksB (rowsS [103] (splitX 10 s), rowsS [99] (splitX 10 s)) = false ∨ marksT (rowsS [103] (splitX 10 s), rowsS [99] (splitX 10 s)) ≠ s) : parseF s = (([], []), false) :=
  parseF_none fun m hm e => by
    have e2 := rowsS_text hm
    rw [e] at e2
    have e3 : (rowsS [103] (splitX 10 s), rowsS [99] (splitX 10 s)) = m := Prod.ext e2.1 e2.2
    rw [e3] at h
    rcases h with h | h
    · rw [hm] at h; cases h
    · exact h e
theorem words_len {x hd : List UInt8} {t : List (List UInt8)} (hs : splitX 32 x = hd :: t) : hd.length + t.length ≤ x.length := by
  have e := join_splitX 32 x
  rw [hs] at e
  have : t.length ≤ (t.flatMap (fun y => (32 : UInt8) :: y)).length := by
    clear e hs
    induction t with
    | nil => simp
    | cons y u ih => rw [List.flatMap_cons, List.length_append, List.length_cons, List.length_cons]; omega
  rw [← e]
  show _ ≤ (hd ++ t.flatMap (fun y => 32 :: y)).length
  rw [List.length_append]
  omega
theorem rowS_wt {h x : List UInt8} {r : List Int} (hh : h.length = 1) (e : rowS h x = some r) : r.length + 1 ≤ x.length := by
  cases hs : splitX 32 x with
  | nil => exact absurd hs (splitX_ne _ _)
  | cons hd t =>
    have := words_len hs
    rw [rowS, hs] at e
    split at e
    · next h2 =>
      cases e
      have e3 : hd = h := h2
      rw [List.tail_cons, List.length_map]
      rw [e3] at this
      omega
    · cases e
theorem rows_wt (ls : List (List UInt8)) : wtL kdL (rowsS [103] ls) + wtL kdL (rowsS [99] ls) ≤ (ls.flatMap (· ++ [10])).length - ls.length := by
  have key : wtL kdL (rowsS [103] ls) + wtL kdL (rowsS [99] ls) + ls.length ≤ (ls.flatMap (· ++ [10])).length := by
    induction ls with
    | nil => simp [rowsS, wtL]
    | cons x t ih =>
      rw [List.flatMap_cons, List.length_append, List.length_append, List.length_singleton, List.length_cons]
      have hw : ∀ (r : List Int) (u : List (List Int)), wtL kdL (r :: u) = 1 + r.length + wtL kdL u := fun r u => by rw [wtL, show kdL.wt r = r.length from wtL_int r]
      have g : ∀ (h : List UInt8), rowsS h (x :: t) = (match rowS h x with | none => rowsS h t | some r => r :: rowsS h t) := fun h => by
        rw [rowsS, List.filterMap_cons]
        cases rowS h x <;> rfl
      rw [g, g]
      cases a : rowS [103] x with
      | none =>
        cases b : rowS [99] x with
        | none => simp only; omega
        | some r => simp only; rw [hw]; have := rowS_wt rfl b; omega
      | some r =>
        cases b : rowS [99] x with
        | none => simp only; rw [hw]; have := rowS_wt rfl a; omega
        | some q =>
          exfalso
          unfold rowS at a b
          split at a
          · next h1 =>
            split at b
            · next h2 => rw [h1] at h2; cases h2
            · cases b
          · cases a
  omega
theorem rows_okS {s : List UInt8} (hl : s.length ≤ 1048576) : kM.ok (rowsS [103] (splitX 10 s), rowsS [99] (splitX 10 s)) := by
  have a := rows_wt (splitX 10 s)
  have e : ((splitX 10 s).flatMap (· ++ [10])).length = s.length + 1 := by
    rw [← join_lines (splitX_ne _ _), join_splitX, List.length_append, List.length_singleton]
  have p : 1 ≤ (splitX 10 s).length := List.length_pos_iff.2 (splitX_ne _ _)
  have e2 : kM.wt (rowsS [103] (splitX 10 s), rowsS [99] (splitX 10 s)) = wtL kdL (rowsS [103] (splitX 10 s)) + wtL kdL (rowsS [99] (splitX 10 s)) := rfl
  show kM.wt _ ≤ 1048576
  omega
set_option maxRecDepth 1000000 in
theorem tail_run2 (h tn c : Nat) (hc : tn + 1 ≤ c) : ∃ o, (∀ w : World, (Instr.slice 73 (.slice (some ⟨h, 0, none⟩) (tn + 1) c) (some (.int .i64 1)) none none).run Tryz.prog w = .ok (.slice (some ⟨h, o, none⟩) tn (c - 1)) w) ∧ (0 < tn → o = 1) := by
  have hu : Tryz.prog.underlying 73 = some (.slice (Tryz.prog.elem 73)) := by kernel_rfl
  have he : ∀ w : World, (sizeOf (Tryz.prog.elem 73)).run Tryz.prog w = .ok 1 w := Tryz.sizeOf9
  by_cases e : c = 1
  · have e0 : tn = 0 := by omega
    subst e e0
    refine ⟨0, fun w => ?_, fun h => absurd h (by omega)⟩
    rw [run_slice_l w _ _ _ _ hu .i64 1 (by omega) (by omega), he]
    simp [Result.andThen, sliced]
  · refine ⟨1, fun w => ?_, fun _ => rfl⟩
    rw [run_slice_l w _ _ _ _ hu .i64 1 (by omega) (by omega), he]
    simp [Result.andThen, sliced, Addr.add, e]
end Go.Proofs.YtnokilofcdbjhaaGreatDoor
