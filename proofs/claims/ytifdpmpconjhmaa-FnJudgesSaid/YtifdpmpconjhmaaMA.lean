/- Valid marks: what the two ways to ask for them come to. -/
import Derived.Test.YtifdpmpconjhmaaKM
namespace Go.Proofs.Ytifdpmpconjhmaa
open Go.RowKit Go.Sort
set_option linter.unusedVariables false

abbrev MD := List (List Int) × List (List Int)
def compMark (x : Int) : Bool := inB 0 1000 x && (x.tmod 25 == 0)
def judges (d : MD) : Nat := (d.2.getD 0 []).length
def okRow (j : Nat) (row : List Int) : Bool := decide (row.length = j) && row.all (inB (-5) 5)
def okComp (j : Nat) (row : List Int) : Bool := decide (row.length = j) && row.all compMark
/-- Valid marks. -/
def marksB (d : MD) : Bool := decide (d.1.length ≤ 14) && decide (d.2.length = 3) && inB 3 9 (judges d) && d.1.all (okRow (judges d)) && d.2.all (okComp (judges d))

theorem i.isComponentMark_any (x : Int) (w : World) : Calls Try.prog 50 #[.int .i64 x] w fun e w' => e = .returned (.bool (compMark x)) ∧ w = w' := by
  cases h1 : inB 0 1000 x
  · have HF : Hid (compMark x = false) := by show _ = _; simp [compMark, h1]
    rw [HF.out]
    go_enter Try.func50, Try.ntmps50
    go_wp2_with (go_at_call 29; refine (i.within_any _ _ _ _).mono ?_; rintro e w' ⟨rfl, rfl⟩)
    go_ret
    exact ⟨rfl, rfl⟩
  · have HF : Hid (compMark x = (x.tmod 25 == 0)) := by show _ = _; simp [compMark, h1]
    have hb : 0 ≤ x ∧ x ≤ 1000 := by simpa [inB] using h1
    have he : Hid (x.tmod 25 = x % 25) := Int.tmod_eq_emod_of_nonneg hb.1
    obtain ⟨hb1, hb2⟩ := hb
    rw [HF.out]
    go_enter Try.func50, Try.ntmps50
    go_wp2_with (go_at_call 29; refine (i.within_any _ _ _ _).mono ?_; rintro e w' ⟨rfl, rfl⟩)
    go_ret
    exact ⟨ret_bool (by rw [he.out]), rfl⟩

theorem isMarksF_any (x : Int) (w : World) : Calls Try.prog 49 #[.int .i64 x] w fun e w' => e = .returned (.bool (!compMark x)) ∧ w = w' := by
  go_enter Try.func49, Try.ntmps49
  go_wp2_with (go_at_call 50; refine (i.isComponentMark_any _ _).mono ?_; rintro e w' ⟨rfl, rfl⟩)
  go_ret
  exact ⟨rfl, rfl⟩

set_option maxHeartbeats 400000 in
theorem indexFunc_marks (A : Option Addr) (n c B : Nat) (zs : List Int) (w : World) (h : SlI w B A n zs) (hn : n ≤ 1048576) :
    Calls Try.prog 56 #[.slice A n c, .func (.func 49) #[] #[]] w fun e w' => (∃ q, e = .returned (.int .i64 q) ∧ decide (0 ≤ q) = !(zs.all compMark)) ∧ w = w' := by
  have hl := hide h.len
  go_enter Try.func56, Try.ntmps56
  go_wp2
  go_loop [5, 8] (fun _ i => ∃ k : Nat, k ≤ n ∧ i = .int .i64 k ∧ (zs.take k).all compMark = true) (fun _ i => n - (intOf i).toNat)
  case atStart => exact ⟨0, Nat.zero_le _, rfl, rfl⟩
  case round =>
    obtain ⟨k, hk, rfl, hall⟩ := hrel
    have H := hide hall; clear hall
    by_cases hlt : k < n
    · obtain ⟨b, off, rfl, hb, hc⟩ := h.cells (by omega)
      have hck := hc k hlt
      clear hc
      go_wp2_with (go_at_call 49; refine (isMarksF_any _ _).mono ?_; rintro e w' ⟨rfl, rfl⟩)
      · go_ret
        exact ⟨⟨k, rfl, by rw [all_stop (k := k) (by have := hl.out; omega) (not_t (by assumption))]; simp⟩, rfl⟩
      · go_round
        case rel => exact ⟨k + 1, by omega, by go_num, all_step (by have := hl.out; omega) H.out (not_f (by assumption))⟩
        case measure => simp [intOf]; omega
    · go_wp2
      go_ret
      exact ⟨⟨-1, rfl, by rw [all_end (by have := hl.out; omega) H.out]; simp⟩, rfl⟩

theorem containsFunc_marks (A : Option Addr) (n c B : Nat) (zs : List Int) (w : World) (h : SlI w B A n zs) (hn : n ≤ 1048576) :
    Calls Try.prog 48 #[.slice A n c, .func (.func 49) #[] #[]] w fun e w' => e = .returned (.bool (!(zs.all compMark))) ∧ w = w' := by
  go_enter Try.func48, Try.ntmps48
  go_wp2_with fail
  refine (indexFunc_marks _ _ _ _ zs _ h hn).mono ?_
  rintro e w' ⟨⟨q, rfl, hq⟩, rfl⟩
  have HQ := hide hq
  clear hq
  go_wp2
  go_ret
  exact ⟨ret_bool HQ.out, rfl⟩

theorem i.judgesOf_any (A A' : Option Addr) (n n' c c' B : Nat) (d : MD) (w : World) (h2 : LR kdL w B A' c' d.2) (hB : B ≤ w.heap.size) (h0 : 0 < d.2.length) (hn' : n' = d.2.length) :
    Calls Try.prog 39 #[.agg #[.slice A n c, .slice A' n' c']] w fun e w' => e = .returned (.int .i64 (judges d)) ∧ Ext w w' := by
  obtain ⟨x, hx⟩ : ∃ x, d.2[0]? = some x := ⟨_, List.getElem?_eq_getElem h0⟩
  obtain ⟨b, off, cs, rfl, hb, ⟨Ak, ck, rfl, hrk⟩, hc⟩ := h2.2.2 0 x hx
  have hJ : Hid (judges d = x.length) := by show _ = _; simp [judges, hx]
  have hck : w.cell? ⟨b, off, none⟩ = some (.slice Ak x.length ck) := by have := hc 0 _ rfl; simpa using this
  have hck1 : (w.alloc (.cells #[.slice A n c, .slice (some ⟨b, off, none⟩) n' c'] 25)).cell? ⟨b, off, none⟩ = some (.slice Ak x.length ck) := by rw [cellA (by simp; omega)]; exact hck
  have hp : (0 : Int) < (n' : Int) := by omega
  rw [hJ.out]
  clear hc hrk hn' hx h2 hck
  go_enter Try.func39, Try.ntmps39
  go_wp2
  go_ret
  exact ⟨rfl, Ext.alloc _ _⟩

theorem s.mkJudges_any (A A' : Option Addr) (n n' c c' B : Nat) (d : MD) (w : World) (h2 : LR kdL w B A' c' d.2) (hB : B ≤ w.heap.size) (h0 : 0 < d.2.length) (hn' : n' = d.2.length) :
    Calls Try.prog 41 #[.agg #[.slice A n c, .slice A' n' c']] w fun e w' => e = .returned (.int .i64 (judges d)) ∧ Ext w w' := by
  obtain ⟨x, hx⟩ : ∃ x, d.2[0]? = some x := ⟨_, List.getElem?_eq_getElem h0⟩
  obtain ⟨b, off, cs, rfl, hb, ⟨Ak, ck, rfl, hrk⟩, hc⟩ := h2.2.2 0 x hx
  have hJ : Hid (judges d = x.length) := by show _ = _; simp [judges, hx]
  have hck : w.cell? ⟨b, off, none⟩ = some (.slice Ak x.length ck) := by have := hc 0 _ rfl; simpa using this
  have hck1 : (w.alloc (.cells #[.slice A n c, .slice (some ⟨b, off, none⟩) n' c'] 25)).cell? ⟨b, off, none⟩ = some (.slice Ak x.length ck) := by rw [cellA (by simp; omega)]; exact hck
  have hp : (0 : Int) < (n' : Int) := by omega
  rw [hJ.out]
  clear hc hrk hn' hx h2 hck
  go_enter Try.func41, Try.ntmps41
  go_wp2
  go_ret
  exact ⟨rfl, Ext.alloc _ _⟩
end Go.Proofs.Ytifdpmpconjhmaa
