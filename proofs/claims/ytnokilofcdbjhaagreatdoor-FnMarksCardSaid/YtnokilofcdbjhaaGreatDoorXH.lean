/- The text of marks: its lines, and that it can be read back in one way. -/
import Derived.Test.YtnokilofcdbjhaaGreatDoorXG
import Derived.Test.YtnokilofcdbjhaaGreatDoorGM
namespace Go.Proofs.YtnokilofcdbjhaaGreatDoor
open Go.RowKit Go.Sort
set_option linter.unusedVariables false

def lineX (h : UInt8) (l : List Int) : List UInt8 := h :: wordsX l
def linesX (d : MD) : List (List UInt8) := d.1.map (lineX 103) ++ d.2.map (lineX 99)
theorem rowT_line (h : UInt8) (l : List Int) : rowT h l = lineX h l ++ [10] := rfl
theorem lineX_words {h : UInt8} (hh : h ≠ 32) (l : List Int) : splitX 32 (lineX h l) = [h] :: l.map Lib.itoa := by
  have e : lineX h l = [h] ++ (l.map Lib.itoa).flatMap (fun y => 32 :: y) := by
    rw [lineX, wordsX, List.flatMap_map]; rfl
  rw [e]
  exact splitX_words (by simpa using Ne.symm hh) (fun y hy => by obtain ⟨n, -, rfl⟩ := List.mem_map.1 hy; exact (itoa_not n).1)
theorem lineX_no10 {h : UInt8} (hh : h ≠ 10) (l : List Int) : (10 : UInt8) ∉ lineX h l := by
  intro hm
  rcases List.mem_cons.1 hm with e | e
  · exact hh e.symm
  · unfold wordsX at e
    obtain ⟨n, -, hn⟩ := List.mem_flatMap.1 e
    rcases List.mem_cons.1 hn with e | e
    · exact absurd e (by decide)
    · exact (itoa_not n).2 e
theorem linesX_no10 (d : MD) : ∀ x ∈ linesX d, (10 : UInt8) ∉ x := by
  intro x hx
  rcases List.mem_append.1 hx with h | h
  · obtain ⟨l, -, rfl⟩ := List.mem_map.1 h; exact lineX_no10 (by decide) l
  · obtain ⟨l, -, rfl⟩ := List.mem_map.1 h; exact lineX_no10 (by decide) l
theorem marksT_lines (d : MD) : marksT d = (linesX d).flatMap (· ++ [10]) := by
  unfold marksT linesX
  rw [List.flatMap_append, List.flatMap_map, List.flatMap_map]
  rfl
theorem marksT_split (d : MD) : splitX 10 (marksT d) = linesX d ++ [[]] := by
  rw [marksT_lines]
  exact splitX_lines (linesX_no10 d)
/-- Rows whose numbers are small. -/
def SmallR (l : List (List Int)) : Prop := ∀ r ∈ l, ∀ x ∈ r, x.natAbs < 1000000000000
theorem marksB_small {d : MD} (h : marksB d = true) : SmallR d.1 ∧ SmallR d.2 := by
  have r1 := marksB_ok h
  refine ⟨fun r hr x hx => ?_, fun r hr x hx => ?_⟩
  · have := (r1.2.2.2.2.1 r hr).2 x hx; omega
  · have := (r1.2.2.2.2.2 r hr).2 x hx; omega
theorem itoas_inj {a b : List Int} (ha : ∀ x ∈ a, x.natAbs < 1000000000000) (hb : ∀ x ∈ b, x.natAbs < 1000000000000) (h : a.map Lib.itoa = b.map Lib.itoa) : a = b := by
  induction a generalizing b with
  | nil => cases b with
    | nil => rfl
    | cons y t => simp at h
  | cons x t ih => cases b with
    | nil => simp at h
    | cons y u =>
      simp only [List.map_cons, List.cons.injEq] at h
      have := itoa_inj (ha x (by simp)) h.1 (hb y (by simp))
      rw [this, ih (fun z hz => ha z (by simp [hz])) (fun z hz => hb z (by simp [hz])) h.2]
theorem lineX_inj {h : UInt8} (hh : h ≠ 32) {a b : List Int} (ha : ∀ x ∈ a, x.natAbs < 1000000000000) (hb : ∀ x ∈ b, x.natAbs < 1000000000000) (e : lineX h a = lineX h b) : a = b := by
  have e2 := congrArg (splitX 32) e
  rw [lineX_words hh, lineX_words hh] at e2
  simp only [List.cons.injEq, true_and] at e2
  exact itoas_inj ha hb e2
theorem lines_inj {h : UInt8} (hh : h ≠ 32) {a b : List (List Int)} (ha : SmallR a) (hb : SmallR b) (e : a.map (lineX h) = b.map (lineX h)) : a = b := by
  induction a generalizing b with
  | nil => cases b with
    | nil => rfl
    | cons y t => simp at e
  | cons x t ih => cases b with
    | nil => simp at e
    | cons y u =>
      simp only [List.map_cons, List.cons.injEq] at e
      rw [lineX_inj hh (ha x (by simp)) (hb y (by simp)) e.1, ih (fun z hz => ha z (by simp [hz])) (fun z hz => hb z (by simp [hz])) e.2]
theorem linesX_inj {a b : MD} (ha : SmallR a.1 ∧ SmallR a.2) (hb : SmallR b.1 ∧ SmallR b.2) (hl : a.2.length = b.2.length) (e : linesX a = linesX b) : a = b := by
  unfold linesX at e
  have e1 := congrArg List.length e
  simp only [List.length_append, List.length_map] at e1
  obtain ⟨h1, h2⟩ := List.append_inj e (by simp only [List.length_map]; omega)
  exact Prod.ext (lines_inj (by decide) ha.1 hb.1 h1) (lines_inj (by decide) ha.2 hb.2 h2)
theorem marksT_inj {a b : MD} (ha : marksB a = true) (hb : marksB b = true) (e : marksT a = marksT b) : a = b := by
  have e2 := congrArg (splitX 10) e
  rw [marksT_split, marksT_split] at e2
  exact linesX_inj (marksB_small ha) (marksB_small hb) (by rw [(marksB_ok ha).2.1, (marksB_ok hb).2.1]) (List.append_cancel_right e2)
open Classical in
/-- What a text of marks is read as. -/
noncomputable def parseF (s : List UInt8) : MD × Bool := if h : ∃ m : MD, marksB m = true ∧ marksT m = s then (h.choose, true) else (([], []), false)
theorem parseF_some {s : List UInt8} {m : MD} (h1 : marksB m = true) (h2 : marksT m = s) : parseF s = (m, true) := by
  have h : ∃ m : MD, marksB m = true ∧ marksT m = s := ⟨m, h1, h2⟩
  unfold parseF
  rw [dif_pos h]
  rw [marksT_inj h.choose_spec.1 h1 (h.choose_spec.2.trans h2.symm)]
theorem parseF_none {s : List UInt8} (h : ∀ m : MD, marksB m = true → marksT m ≠ s) : parseF s = (([], []), false) := by
  unfold parseF
  rw [dif_neg (fun ⟨m, h1, h2⟩ => h m h1 h2)]
end Go.Proofs.YtnokilofcdbjhaaGreatDoor
