/- GM: KM, MA, MB, MC, ML, ME, MF, MJ, MK, MN, MP, MU in one text. -/
import Derived.Test.YtnokilofcdbjhaaGreatDoorGB
import Derived.Test.YtnokilofcdbjhaaGreatDoorGA
import Derived.Deep.RegionHeld3
/- Marks: what the laws' helpers do with them. -/
namespace Go.Proofs.YtnokilofcdbjhaaGreatDoor
open Go.RowKit Go.Sort
set_option linter.unusedVariables false

def kdM : Kd (List (List Int) × List (List Int)) := kdPair kdLL kdLL
/-- Marks, as they lie in a value. -/
theorem kdM.open_ {w : World} {B : Nat} {vs : List Value} {d : List (List Int) × List (List Int)} (h : kdM.rd w B vs d) : ∃ A c A' c', vs = [.slice A d.1.length c, .slice A' d.2.length c'] ∧ LR kdL w B A c d.1 ∧ LR kdL w B A' c' d.2 := by
  obtain ⟨v1, v2, rfl, ⟨A, c, rfl, h1⟩, ⟨A', c', rfl, h2⟩⟩ := h
  exact ⟨A, c, A', c', rfl, h1, h2⟩
theorem kdM.val2 (a b : Value) : kdM.val [a, b] = .agg #[a, b] := rfl

end Go.Proofs.YtnokilofcdbjhaaGreatDoor

/- Valid marks: what the two ways to ask for them come to. -/
namespace Go.Proofs.YtnokilofcdbjhaaGreatDoor
open Go.RowKit Go.Sort
set_option linter.unusedVariables false

abbrev MD := List (List Int) × List (List Int)
def compMark (x : Int) : Bool := inB 0 1000 x && (x.tmod 25 == 0)
def judges (d : MD) : Nat := (d.2.getD 0 []).length
def okRow (j : Nat) (row : List Int) : Bool := decide (row.length = j) && row.all (inB (-5) 5)
def okComp (j : Nat) (row : List Int) : Bool := decide (row.length = j) && row.all compMark
/-- Valid marks. -/
def marksB (d : MD) : Bool := decide (d.1.length ≤ 14) && decide (d.2.length = 3) && inB 3 9 (judges d) && d.1.all (okRow (judges d)) && d.2.all (okComp (judges d))

theorem i.isComponentMark_any (x : Int) (w : World) : Calls Tryz.prog 58 #[.int .i64 x] w fun e w' => e = .returned (.bool (compMark x)) ∧ w = w' := by
  cases h1 : inB 0 1000 x
  · have HF : Hid (compMark x = false) := by show _ = _; simp [compMark, h1]
    rw [HF.out]
    go_enter Tryz.func58, Tryz.ntmps58
    go_wp2_with (go_at_call 46; refine (i.within_any _ _ _ _).mono ?_; rintro e w' ⟨rfl, rfl⟩)
    go_ret
    exact ⟨rfl, rfl⟩
  · have HF : Hid (compMark x = (x.tmod 25 == 0)) := by show _ = _; simp [compMark, h1]
    have hb : 0 ≤ x ∧ x ≤ 1000 := by simpa [inB] using h1
    have he : Hid (x.tmod 25 = x % 25) := Int.tmod_eq_emod_of_nonneg hb.1
    obtain ⟨hb1, hb2⟩ := hb
    rw [HF.out]
    go_enter Tryz.func58, Tryz.ntmps58
    go_wp2_with (go_at_call 46; refine (i.within_any _ _ _ _).mono ?_; rintro e w' ⟨rfl, rfl⟩)
    go_ret
    exact ⟨ret_bool (by rw [he.out]), rfl⟩

theorem isMarksF_any (x : Int) (w : World) : Calls Tryz.prog 57 #[.int .i64 x] w fun e w' => e = .returned (.bool (!compMark x)) ∧ w = w' := by
  go_enter Tryz.func57, Tryz.ntmps57
  go_wp2_with (go_at_call 58; refine (i.isComponentMark_any _ _).mono ?_; rintro e w' ⟨rfl, rfl⟩)
  go_ret
  exact ⟨rfl, rfl⟩

set_option maxHeartbeats 400000 in
theorem indexFunc_marks (A : Option Addr) (n c B : Nat) (zs : List Int) (w : World) (h : SlI w B A n zs) (hn : n ≤ 1048576) :
    Calls Tryz.prog 74 #[.slice A n c, .func (.func 57) #[] #[]] w fun e w' => (∃ q, e = .returned (.int .i64 q) ∧ decide (0 ≤ q) = !(zs.all compMark)) ∧ w = w' := by
  have hl := hide h.len
  go_enter Tryz.func74, Tryz.ntmps74
  go_wp2
  go_loop [5, 8] (fun _ i => ∃ k : Nat, k ≤ n ∧ i = .int .i64 k ∧ (zs.take k).all compMark = true) (fun _ i => n - (intOf i).toNat)
  case atStart => exact ⟨0, Nat.zero_le _, rfl, rfl⟩
  case round =>
    obtain ⟨k, hk, rfl, hall⟩ := hrel
    have H := hide hall; clear hall
    by_cases hlt : k < n
    · obtain ⟨b, off, rfl, hb, hc⟩ := h.cells (by omega)
      have hck := hc k hlt
      clear hc
      go_wp2_with (go_at_call 57; refine (isMarksF_any _ _).mono ?_; rintro e w' ⟨rfl, rfl⟩)
      · go_ret
        exact ⟨⟨k, rfl, by rw [all_stop (k := k) (by have := hl.out; omega) (not_t (by assumption))]; simp⟩, rfl⟩
      · go_round
        case rel => exact ⟨k + 1, by omega, by go_num, all_step (by have := hl.out; omega) H.out (not_f (by assumption))⟩
        case measure => simp [intOf]; omega
    · go_wp2
      go_ret
      exact ⟨⟨-1, rfl, by rw [all_end (by have := hl.out; omega) H.out]; simp⟩, rfl⟩

theorem containsFunc_marks (A : Option Addr) (n c B : Nat) (zs : List Int) (w : World) (h : SlI w B A n zs) (hn : n ≤ 1048576) :
    Calls Tryz.prog 56 #[.slice A n c, .func (.func 57) #[] #[]] w fun e w' => e = .returned (.bool (!(zs.all compMark))) ∧ w = w' := by
  go_enter Tryz.func56, Tryz.ntmps56
  go_wp2_with fail
  refine (indexFunc_marks _ _ _ _ zs _ h hn).mono ?_
  rintro e w' ⟨⟨q, rfl, hq⟩, rfl⟩
  have HQ := hide hq
  clear hq
  go_wp2
  go_ret
  exact ⟨ret_bool HQ.out, rfl⟩

theorem i.judgesOf_any (A A' : Option Addr) (n n' c c' B : Nat) (d : MD) (w : World) (h2 : LR kdL w B A' c' d.2) (hB : B ≤ w.heap.size) (h0 : 0 < d.2.length) (hn' : n' = d.2.length) :
    Calls Tryz.prog 32 #[.agg #[.slice A n c, .slice A' n' c']] w fun e w' => e = .returned (.int .i64 (judges d)) ∧ Ext w w' := by
  obtain ⟨x, hx⟩ : ∃ x, d.2[0]? = some x := ⟨_, List.getElem?_eq_getElem h0⟩
  obtain ⟨b, off, cs, rfl, hb, ⟨Ak, ck, rfl, hrk⟩, hc⟩ := h2.2.2 0 x hx
  have hJ : Hid (judges d = x.length) := by show _ = _; simp [judges, hx]
  have hck : w.cell? ⟨b, off, none⟩ = some (.slice Ak x.length ck) := by have := hc 0 _ rfl; simpa using this
  have hck1 : (w.alloc (.cells #[.slice A n c, .slice (some ⟨b, off, none⟩) n' c'] 25)).cell? ⟨b, off, none⟩ = some (.slice Ak x.length ck) := by rw [cellA (by simp; omega)]; exact hck
  have hp : (0 : Int) < (n' : Int) := by omega
  rw [hJ.out]
  clear hc hrk hn' hx h2 hck
  go_enter Tryz.func32, Tryz.ntmps32
  go_wp2
  go_ret
  exact ⟨rfl, Ext.alloc _ _⟩

theorem s.mkJudges_any (A A' : Option Addr) (n n' c c' B : Nat) (d : MD) (w : World) (h2 : LR kdL w B A' c' d.2) (hB : B ≤ w.heap.size) (h0 : 0 < d.2.length) (hn' : n' = d.2.length) :
    Calls Tryz.prog 33 #[.agg #[.slice A n c, .slice A' n' c']] w fun e w' => e = .returned (.int .i64 (judges d)) ∧ Ext w w' := by
  obtain ⟨x, hx⟩ : ∃ x, d.2[0]? = some x := ⟨_, List.getElem?_eq_getElem h0⟩
  obtain ⟨b, off, cs, rfl, hb, ⟨Ak, ck, rfl, hrk⟩, hc⟩ := h2.2.2 0 x hx
  have hJ : Hid (judges d = x.length) := by show _ = _; simp [judges, hx]
  have hck : w.cell? ⟨b, off, none⟩ = some (.slice Ak x.length ck) := by have := hc 0 _ rfl; simpa using this
  have hck1 : (w.alloc (.cells #[.slice A n c, .slice (some ⟨b, off, none⟩) n' c'] 25)).cell? ⟨b, off, none⟩ = some (.slice Ak x.length ck) := by rw [cellA (by simp; omega)]; exact hck
  have hp : (0 : Int) < (n' : Int) := by omega
  rw [hJ.out]
  clear hc hrk hn' hx h2 hck
  go_enter Tryz.func33, Tryz.ntmps33
  go_wp2
  go_ret
  exact ⟨rfl, Ext.alloc _ _⟩
end Go.Proofs.YtnokilofcdbjhaaGreatDoor

/- Valid marks: the two walks. -/
namespace Go.Proofs.YtnokilofcdbjhaaGreatDoor
open Go.RowKit Go.Sort
set_option linter.unusedVariables false

theorem allG_step {α : Type} {f : α → Bool} {xs : List α} {k : Nat} {x : α} (hx : xs[k]? = some x) (h : (xs.take k).all f = true) (h1 : f x = true) : (xs.take (k + 1)).all f = true := by
  obtain ⟨hk, rfl⟩ := List.getElem?_eq_some_iff.1 hx
  rw [List.take_succ_eq_append_getElem hk, List.all_append, h]; simpa using h1
theorem allG_stop {α : Type} {f : α → Bool} {xs : List α} {k : Nat} {x : α} (hx : xs[k]? = some x) (h1 : f x = false) : xs.all f = false := by
  obtain ⟨hk, rfl⟩ := List.getElem?_eq_some_iff.1 hx
  rw [List.all_eq_false]
  exact ⟨_, List.getElem_mem hk, by simp [h1]⟩
theorem allG_end {α : Type} {f : α → Bool} {xs : List α} {k : Nat} (hk : ¬ k < xs.length) (h : (xs.take k).all f = true) : xs.all f = true := by
  rwa [List.take_of_length_le (by omega)] at h
/-- Row k of a list of rows, in a later world. -/
theorem LR.row {w w' : World} {B c k : Nat} {A : Option Addr} {xs : List (List Int)} {x : List Int} (h : LR kdL w B A c xs) (k' : Ext w w') (hB : B ≤ w.heap.size) (hx : xs[k]? = some x) :
    ∃ b off Ak ck, A = some ⟨b, off, none⟩ ∧ b < B ∧ w'.cell? ⟨b, off + k, none⟩ = some (.slice Ak x.length ck) ∧ LR kdInt w' B Ak ck x := by
  obtain ⟨b, off, cs, rfl, hb, ⟨Ak, ck, rfl, hrk⟩, hc⟩ := (h.ext k' hB).2.2 k x hx
  refine ⟨b, off, Ak, ck, rfl, hb, ?_, hrk⟩
  have := hc 0 _ rfl
  rwa [show k * kdL.size + 0 = k from by show k * 1 + 0 = k; omega] at this

theorem LR.mono_len {w : World} {B c : Nat} {A : Option Addr} {zs : List Int} (h : LR kdInt w B A c zs) (hn : zs.length ≤ 1048576) : True := trivial

set_option maxHeartbeats 2000000 in
theorem i.isMarks_any (A A' : Option Addr) (c c' B : Nat) (d : MD) (w : World) (h1 : LR kdL w B A c d.1) (h2 : LR kdL w B A' c' d.2) (hB : B ≤ w.heap.size) (hwt : kdM.wt d ≤ 1048576) :
    Calls Tryz.prog 26 #[.agg #[.slice A d.1.length c, .slice A' d.2.length c']] w fun e w' => e = .returned (.bool (marksB d)) ∧ Ext w w' := by
  have H1 := hide h1
  have H2 := hide h2
  have HW := hide hwt
  have hw1 : Hid (wtL kdL d.1 ≤ 1048576) := by have : kdM.wt d = wtL kdL d.1 + wtL kdL d.2 := rfl; show _ ≤ _; omega
  have hw2 : Hid (wtL kdL d.2 ≤ 1048576) := by have : kdM.wt d = wtL kdL d.1 + wtL kdL d.2 := rfl; show _ ≤ _; omega
  have hc1 := h1.1; have hc1' := h1.2.1; have hc2 := h2.1; have hc2' := h2.2.1
  clear h1 h2 hwt
  obtain ⟨n, hn⟩ : ∃ n, Hid (d.1.length = n) := ⟨_, rfl⟩
  obtain ⟨n', hn'⟩ : ∃ n', Hid (d.2.length = n') := ⟨_, rfl⟩
  rw [hn.out] at hc1 ⊢
  rw [hn'.out] at hc2 ⊢
  obtain ⟨W0, hW0⟩ : ∃ W0, Hid (W0 = w.alloc (.cells #[.slice A n c, .slice A' n' c'] 25)) := ⟨_, rfl⟩
  have X0 : Hid (Ext w W0) := by rw [hW0.out]; exact Ext.alloc w _
  have B0 := hide (show Blk W0 w.heap.size #[.slice A n c, .slice A' n' c'] 25 by rw [hW0.out]; exact Blk.new rfl _ _)
  by_cases hg : 14 < n
  · have HF : Hid (marksB d = false) := by show _ = _; have := hn.out; simp [marksB]; omega
    rw [HF.out]
    have hg' : (14 : Int) < n := by omega
    go_enter Tryz.func26, Tryz.ntmps26
    go_wp2_with fail
    go_ret
    exact ⟨rfl, Ext.alloc _ _⟩
  · have hg' : ¬ (14 : Int) < n := by omega
    by_cases hc : n' = 3
    · have hc3 : ((n' : Int) != 3) = false := by simp; omega
      have hp' : (0 : Int) < (n' : Int) := by omega
      have hp3 : n' ≤ 3 := by omega
      have hq3 : 3 ≤ n' := by omega
      clear hc
      obtain ⟨J, hJ⟩ : ∃ J : Nat, Hid (judges d = J) := ⟨_, rfl⟩
      obtain ⟨x0, hx0'⟩ : ∃ x, d.2[0]? = some x := ⟨_, List.getElem?_eq_getElem (by have := hn'.out; omega)⟩
      have hx0 := hide hx0'
      clear hx0'
      have hJ0 : Hid (x0.length = J) := by show _ = _; rw [← hJ.out]; have := hx0.out; simp [judges, this]
      have hJw : J ≤ 1048576 := by have h5 := wtL_at kdL d.2 0 x0 hx0.out; have h6 : kdL.wt x0 = x0.length := wtL_int x0; have := hJ0.out; have := hw2.out; omega
      obtain ⟨b, off, Ak, ck, rfl, hb, hck, hrk⟩ := H2.out.row X0.out hB hx0.out
      rw [hJ0.out] at hck
      simp only [Nat.add_zero] at hck
      rw [hW0.out] at hck
      clear hrk
      cases hin : inB 3 9 (J : Int)
      · have HF : Hid (marksB d = false) := by show _ = _; rw [marksB, hJ.out, hin]; simp
        rw [HF.out]
        go_enter Tryz.func26, Tryz.ntmps26
        go_wp2_with (go_at_call 46; refine (i.within_any _ _ _ _).mono ?_; rintro e w' ⟨rfl, rfl⟩)
        go_ret
        exact ⟨rfl, Ext.alloc _ _⟩
      · have HF : Hid (marksB d = (d.1.all (okRow J) && d.2.all (okComp J))) := by
          show _ = _
          rw [marksB, hJ.out, hin]
          have e1 : decide (d.1.length ≤ 14) = true := by have := hn.out; simp; omega
          have e2 : decide (d.2.length = 3) = true := by have := hn'.out; simp; omega
          rw [e1, e2]; simp
        obtain ⟨R, hR⟩ : ∃ R, Hid (marksB d = R) := ⟨_, rfl⟩
        rw [hR.out]
        go_enter Tryz.func26, Tryz.ntmps26
        go_wp2_with (go_at_call 46; refine (i.within_any _ _ _ _).mono ?_; rintro e w' ⟨rfl, rfl⟩)
        rw [← hW0.out]
        clear hck hW0 hin
        go_loopw [4, 29] (fun _ i wr => ∃ k : Nat, k ≤ n ∧ i = .int .i64 k ∧ (d.1.take k).all (okRow J) = true ∧ Ext W0 wr) (fun _ i _ => n - (intOf i).toNat)
        case atStart => exact ⟨0, Nat.zero_le _, rfl, rfl, Ext.refl _⟩
        case round =>
          obtain ⟨k, hk, rfl, hall, hxr⟩ := hrel
          have HA := hide hall
          have HX := hide hxr
          have cB := (B0.out.ext hxr).cell
          clear hall hxr
          by_cases hlt : k < n
          · obtain ⟨x, hxk⟩ : ∃ x, Hid (d.1[k]? = some x) := ⟨_, List.getElem?_eq_getElem (by rw [hn.out]; exact hlt)⟩
            obtain ⟨b1, off1, Ax, cx, rfl, hb1, hck, hrk⟩ := H1.out.row (X0.out.trans HX.out) hB hxk.out
            have hxw : x.length ≤ 1048576 := by have h5 := wtL_at kdL d.1 k x hxk.out; have h6 : kdL.wt x = x.length := wtL_int x; have := hw1.out; omega
            have hcx := hrk.1
            have hcx' := hrk.2.1
            have HRK := hide hrk
            clear hrk
            go_wp2_with fail
            refine (i.judgesOf_any _ _ _ _ _ _ _ d _ (H2.out.ext (X0.out.trans HX.out) hB) (Nat.le_trans hB (X0.out.trans HX.out).size) (by have := hn'.out; omega) hn'.out.symm).mono ?_
            rintro e w2 ⟨rfl, hx2⟩
            rw [hJ.out]
            have HX2 := hide (HX.out.trans hx2)
            have HRK2 := hide (HRK.out.ext hx2 (Nat.le_trans hB (X0.out.trans HX.out).size))
            clear hx2 cB hck
            by_cases hlen : x.length = J
            · have hne : ((x.length : Int) != (J : Int)) = false := by simp; omega
              have HLN := hide hlen
              clear hlen
              cases hal : x.all (inB (-5) 5)
              · go_wp2_with (go_at_call 55; refine (i.allWithin_any _ _ _ _ x _ _ _ HRK2.out.sl hxw).mono ?_; rintro e w3 ⟨rfl, rfl⟩)
                go_ret
                have hf : Hid (okRow J x = false) := by show _ = _; simp [okRow, hal]
                exact ⟨ret_bool (by rw [← hR.out, HF.out, allG_stop hxk.out hf.out]; simp), X0.out.trans HX2.out⟩
              · have hf : Hid (okRow J x = true) := by show _ = _; simp [okRow, hal, HLN.out]
                go_wp2_with (go_at_call 55; refine (i.allWithin_any _ _ _ _ x _ _ _ HRK2.out.sl hxw).mono ?_; rintro e w3 ⟨rfl, rfl⟩)
                go_roundw
                case rel => exact ⟨k + 1, by omega, by go_num, allG_step hxk.out HA.out hf.out, HX2.out⟩
                case measure => simp [intOf]; omega
            · have hne : ((x.length : Int) != (J : Int)) = true := by simp; omega
              have hf : Hid (okRow J x = false) := by show _ = _; simp [okRow, hlen]
              clear hlen
              go_wp2
              go_ret
              exact ⟨ret_bool (by rw [← hR.out, HF.out, allG_stop hxk.out hf.out]; simp), X0.out.trans HX2.out⟩
          · have HE := hide (allG_end (by rw [hn.out]; exact hlt) HA.out)
            go_wp2_with fail
            obtain ⟨wo, rfl⟩ : ∃ wo : World, wo = wr := ⟨_, rfl⟩
            clear cB
            go_loopw [6, 47] (fun _ i wr => ∃ k : Nat, k ≤ n' ∧ i = .int .i64 k ∧ (d.2.take k).all (okComp J) = true ∧ Ext W0 wr) (fun _ i _ => n' - (intOf i).toNat)
            case atStart => exact ⟨0, Nat.zero_le _, rfl, rfl, HX.out⟩
            case round =>
              obtain ⟨k2, hk2, rfl, hall, hxr⟩ := hrel
              have HA2 := hide hall
              have HX1 := hide hxr
              have cB := (B0.out.ext HX1.out).cell
              clear hall hxr
              by_cases hlt2 : k2 < n'
              · obtain ⟨x, hxk⟩ : ∃ x, Hid (d.2[k2]? = some x) := ⟨_, List.getElem?_eq_getElem (by rw [hn'.out]; exact hlt2)⟩
                obtain ⟨b1, off1, Ax, cx, heq, hb1, hck, hrk⟩ := H2.out.row (X0.out.trans HX1.out) hB hxk.out
                simp only [Option.some.injEq, Addr.mk.injEq, and_true] at heq
                obtain ⟨rfl, rfl⟩ := heq
                have hxw : x.length ≤ 1048576 := by have h5 := wtL_at kdL d.2 k2 x hxk.out; have h6 : kdL.wt x = x.length := wtL_int x; have := hw2.out; omega
                have hcx := hrk.1
                have hcx' := hrk.2.1
                have HRK := hide hrk
                clear hrk
                go_wp2_with fail
                refine (i.judgesOf_any _ _ _ _ _ _ _ d _ (H2.out.ext (X0.out.trans HX1.out) hB) (Nat.le_trans hB (X0.out.trans HX1.out).size) (by have := hn'.out; omega) hn'.out.symm).mono ?_
                rintro e w2 ⟨rfl, hx2⟩
                rw [hJ.out]
                have HX2 := hide (HX1.out.trans hx2)
                have HRK2 := hide (HRK.out.ext hx2 (Nat.le_trans hB (X0.out.trans HX1.out).size))
                clear hx2 cB hck
                by_cases hlen : x.length = J
                · have hne : ((x.length : Int) != (J : Int)) = false := by simp; omega
                  have HLN := hide hlen
                  clear hlen
                  cases hal : x.all compMark
                  · go_wp2_with (go_at_call 56; refine (containsFunc_marks _ _ _ _ x _ HRK2.out.sl hxw).mono ?_; rintro e w3 ⟨rfl, rfl⟩)
                    go_ret
                    have hf : Hid (okComp J x = false) := by show _ = _; simp [okComp, hal]
                    exact ⟨ret_bool (by rw [← hR.out, HF.out, allG_stop hxk.out hf.out]; simp), X0.out.trans HX2.out⟩
                  · have hf : Hid (okComp J x = true) := by show _ = _; simp [okComp, hal, HLN.out]
                    go_wp2_with (go_at_call 56; refine (containsFunc_marks _ _ _ _ x _ HRK2.out.sl hxw).mono ?_; rintro e w3 ⟨rfl, rfl⟩)
                    go_roundw
                    case rel => exact ⟨k2 + 1, by omega, by go_num, allG_step hxk.out HA2.out hf.out, HX2.out⟩
                    case measure => simp [intOf]; omega
                · have hne : ((x.length : Int) != (J : Int)) = true := by simp; omega
                  have hf : Hid (okComp J x = false) := by show _ = _; simp [okComp, hlen]
                  clear hlen
                  go_wp2
                  go_ret
                  exact ⟨ret_bool (by rw [← hR.out, HF.out, allG_stop hxk.out hf.out]; simp), X0.out.trans HX2.out⟩
              · have HE2 := hide (allG_end (by rw [hn'.out]; exact hlt2) HA2.out)
                go_wp2
                go_ret
                exact ⟨ret_bool (by rw [← hR.out, HF.out, HE.out, HE2.out]; rfl), X0.out.trans HX1.out⟩
    · have hc3 : ((n' : Int) != 3) = true := by simp; omega
      have HF : Hid (marksB d = false) := by show _ = _; have := hn'.out; simp [marksB]; omega
      rw [HF.out]
      clear hc
      go_enter Tryz.func26, Tryz.ntmps26
      go_wp2_with fail
      go_ret
      exact ⟨rfl, Ext.alloc _ _⟩
end Go.Proofs.YtnokilofcdbjhaaGreatDoor

/- Valid marks: the reference's walk. -/
namespace Go.Proofs.YtnokilofcdbjhaaGreatDoor
open Go.RowKit Go.Sort
set_option linter.unusedVariables false

def mkListF (zs : List Int) (j : Int) (comp : Bool) : Bool := decide ((zs.length : Int) = j) && (if comp then zs.all compMark else zs.all (inB (-5) 5))
def t25 (x : Int) : Bool := x.tmod 25 == 0
theorem comp_split (zs : List Int) : zs.all compMark = (zs.all t25 && zs.all (inB 0 1000)) := by
  induction zs with
  | nil => rfl
  | cons z t ih =>
    simp only [List.all_cons, ih, compMark, t25]
    cases inB 0 1000 z <;> cases (z.tmod 25 == 0) <;> cases t.all t25 <;> cases t.all (inB 0 1000) <;> rfl

set_option maxHeartbeats 1000000 in
theorem s.mkList_any (A : Option Addr) (n c B : Nat) (zs : List Int) (j : Int) (b : Bool) (w : World) (h : SlI w B A n zs) (hn : n ≤ 1048576) :
    Calls Tryz.prog 62 #[.slice A n c, .int .i64 j, .bool b] w fun e w' => e = .returned (.bool (mkListF zs j b)) ∧ w = w' := by
  have hl := hide h.len
  obtain ⟨R, hR⟩ : ∃ R, Hid (mkListF zs j b = R) := ⟨_, rfl⟩
  rw [hR.out]
  cases b
  · have HF : Hid (mkListF zs j false = (decide ((n : Int) = j) && zs.all (inB (-5) 5))) := by show _ = _; simp [mkListF, hl.out]
    go_enter Tryz.func62, Tryz.ntmps62
    go_wp2
    go_loop [8, 11] (fun _ i => ∃ k : Nat, k ≤ n ∧ i = .int .i64 k) (fun _ i => n - (intOf i).toNat)
    case atStart => exact ⟨0, Nat.zero_le _, rfl⟩
    case round =>
      obtain ⟨k, hk, rfl⟩ := hrel
      by_cases hlt : k < n
      · obtain ⟨b, off, rfl, hb, hc⟩ := h.cells (by omega)
        have hck := hc k hlt
        clear hc
        go_wp2
        go_round
        case rel => exact ⟨k + 1, by omega, by go_num⟩
        case measure => simp [intOf]; omega
      · by_cases hj : (n : Int) = j
        · have hb' : ((n : Int) == j) = true := by simp [hj]
          have HJ := hide hj
          clear hj
          go_wp2_with (go_at_call 78; refine (s.l1All_any _ _ _ _ zs _ _ _ h hn).mono ?_; rintro e w' ⟨rfl, rfl⟩)
          go_ret
          exact ⟨ret_bool (by rw [← hR.out, HF.out, HJ.out]; simp), rfl⟩
        · have hb' : ((n : Int) == j) = false := by simp [hj]
          have HJ := hide hj
          clear hj
          go_wp2_with (go_at_call 78; refine (s.l1All_any _ _ _ _ zs _ _ _ h hn).mono ?_; rintro e w' ⟨rfl, rfl⟩)
          go_ret
          exact ⟨ret_bool (by rw [← hR.out, HF.out]; simp [HJ.out]), rfl⟩
  · have HF : Hid (mkListF zs j true = (decide ((n : Int) = j) && (zs.all t25 && zs.all (inB 0 1000)))) := by show _ = _; simp [mkListF, hl.out, comp_split]
    go_enter Tryz.func62, Tryz.ntmps62
    go_wp2
    go_loop [8, 11] (fun _ i => ∃ k : Nat, k ≤ n ∧ i = .int .i64 k ∧ (zs.take k).all t25 = true) (fun _ i => n - (intOf i).toNat)
    case atStart => exact ⟨0, Nat.zero_le _, rfl, rfl⟩
    case round =>
      obtain ⟨k, hk, rfl, hall⟩ := hrel
      have HA := hide hall
      clear hall
      by_cases hlt : k < n
      · obtain ⟨b, off, rfl, hb, hc⟩ := h.cells (by omega)
        have hck := hc k hlt
        clear hc
        cases ht : t25 (zs.getD k 0)
        · have hs := hide (all_stop (k := k) (by have := hl.out; omega) ht)
          have hm : ((zs.getD k 0).tmod 25 != 0) = true := by show (!((zs.getD k 0).tmod 25 == 0)) = true; rw [show ((zs.getD k 0).tmod 25 == 0) = false from ht]; rfl
          clear ht
          generalize zs.getD k 0 = x at *
          go_wp2
          go_ret
          exact ⟨ret_bool (by rw [← hR.out, HF.out, hs.out]; simp), rfl⟩
        · have hs := hide (all_step (by have := hl.out; omega) HA.out ht)
          have hm : ((zs.getD k 0).tmod 25 != 0) = false := by show (!((zs.getD k 0).tmod 25 == 0)) = false; rw [show ((zs.getD k 0).tmod 25 == 0) = true from ht]; rfl
          clear ht
          generalize zs.getD k 0 = x at *
          go_wp2
          go_round
          case rel => exact ⟨k + 1, by omega, by go_num, hs.out⟩
          case measure => simp [intOf]; omega
      · have HE := hide (all_end (by have := hl.out; omega) HA.out)
        by_cases hj : (n : Int) = j
        · have hb' : ((n : Int) == j) = true := by simp [hj]
          have HJ := hide hj
          clear hj
          go_wp2_with (go_at_call 78; refine (s.l1All_any _ _ _ _ zs _ _ _ h hn).mono ?_; rintro e w' ⟨rfl, rfl⟩)
          go_ret
          exact ⟨ret_bool (by rw [← hR.out, HF.out, HE.out, HJ.out]; simp), rfl⟩
        · have hb' : ((n : Int) == j) = false := by simp [hj]
          have HJ := hide hj
          clear hj
          go_wp2_with (go_at_call 78; refine (s.l1All_any _ _ _ _ zs _ _ _ h hn).mono ?_; rintro e w' ⟨rfl, rfl⟩)
          go_ret
          exact ⟨ret_bool (by rw [← hR.out, HF.out]; simp [HJ.out]), rfl⟩

theorem mkListF_row (x : List Int) (J : Nat) : mkListF x (J : Int) false = okRow J x := by
  unfold mkListF okRow
  by_cases h : x.length = J
  · simp [h]
  · have : ¬ ((x.length : Int) = (J : Int)) := by omega
    simp [h, this]
theorem mkListF_comp (x : List Int) (J : Nat) : mkListF x (J : Int) true = okComp J x := by
  unfold mkListF okComp
  by_cases h : x.length = J
  · simp [h]
  · have : ¬ ((x.length : Int) = (J : Int)) := by omega
    simp [h, this]

set_option maxHeartbeats 2000000 in
theorem s.mkAll_any (A A' : Option Addr) (c c' B : Nat) (d : MD) (w : World) (h1 : LR kdL w B A c d.1) (h2 : LR kdL w B A' c' d.2) (hB : B ≤ w.heap.size) (hwt : kdM.wt d ≤ 1048576) :
    Calls Tryz.prog 30 #[.agg #[.slice A d.1.length c, .slice A' d.2.length c']] w fun e w' => e = .returned (.bool (marksB d)) ∧ Ext w w' := by
  have H1 := hide h1
  have H2 := hide h2
  have hw1 : Hid (wtL kdL d.1 ≤ 1048576) := by have : kdM.wt d = wtL kdL d.1 + wtL kdL d.2 := rfl; show _ ≤ _; omega
  have hw2 : Hid (wtL kdL d.2 ≤ 1048576) := by have : kdM.wt d = wtL kdL d.1 + wtL kdL d.2 := rfl; show _ ≤ _; omega
  have hc1 := h1.1; have hc1' := h1.2.1; have hc2 := h2.1; have hc2' := h2.2.1
  clear h1 h2 hwt
  obtain ⟨n, hn⟩ : ∃ n, Hid (d.1.length = n) := ⟨_, rfl⟩
  obtain ⟨n', hn'⟩ : ∃ n', Hid (d.2.length = n') := ⟨_, rfl⟩
  rw [hn.out] at hc1 ⊢
  rw [hn'.out] at hc2 ⊢
  obtain ⟨W0, hW0⟩ : ∃ W0, Hid (W0 = w.alloc (.cells #[.slice A n c, .slice A' n' c'] 25)) := ⟨_, rfl⟩
  have X0 : Hid (Ext w W0) := by rw [hW0.out]; exact Ext.alloc w _
  have B0 := hide (show Blk W0 w.heap.size #[.slice A n c, .slice A' n' c'] 25 by rw [hW0.out]; exact Blk.new rfl _ _)
  by_cases hc : n' = 3
  · have hc3 : ((n' : Int) != 3) = false := by simp; omega
    have hp' : (0 : Int) < (n' : Int) := by omega
    have hp3 : n' ≤ 3 := by omega
    have hq3 : 3 ≤ n' := by omega
    clear hc
    by_cases hg : 14 < n
    · have HF : Hid (marksB d = false) := by show _ = _; have := hn.out; simp [marksB]; omega
      rw [HF.out]
      have hg' : (14 : Int) < n := by omega
      go_enter Tryz.func30, Tryz.ntmps30
      go_wp2_with fail
      go_ret
      exact ⟨rfl, Ext.alloc _ _⟩
    · have hg' : ¬ (14 : Int) < n := by omega
      obtain ⟨J, hJ⟩ : ∃ J : Nat, Hid (judges d = J) := ⟨_, rfl⟩
      obtain ⟨x0, hx0'⟩ : ∃ x, d.2[0]? = some x := ⟨_, List.getElem?_eq_getElem (by have := hn'.out; omega)⟩
      have hx0 := hide hx0'
      clear hx0'
      have hJ0 : Hid (x0.length = J) := by show _ = _; rw [← hJ.out]; have := hx0.out; simp [judges, this]
      have hJw : J ≤ 1048576 := by have h5 := wtL_at kdL d.2 0 x0 hx0.out; have h6 : kdL.wt x0 = x0.length := wtL_int x0; have := hJ0.out; have := hw2.out; omega
      obtain ⟨b, off, Ak, ck, rfl, hb, hck, hrk⟩ := H2.out.row X0.out hB hx0.out
      rw [hJ0.out] at hck
      simp only [Nat.add_zero] at hck
      rw [hW0.out] at hck
      clear hrk
      have HF : Hid (marksB d = (inB 3 9 J && d.1.all (okRow J) && d.2.all (okComp J))) := by
        show _ = _
        rw [marksB, hJ.out]
        have e1 : decide (d.1.length ≤ 14) = true := by have := hn.out; simp; omega
        have e2 : decide (d.2.length = 3) = true := by have := hn'.out; simp; omega
        rw [e1, e2]; simp
      obtain ⟨R, hR⟩ : ∃ R, Hid (marksB d = R) := ⟨_, rfl⟩
      rw [hR.out]
      go_enter Tryz.func30, Tryz.ntmps30
      go_wp2_with fail
      rw [← hW0.out]
      clear hck hW0
      go_loopw [5, 26] (fun _ i wr => ∃ k : Nat, k ≤ n ∧ i = .int .i64 k ∧ (d.1.take k).all (okRow J) = true ∧ wr = W0) (fun _ i _ => n - (intOf i).toNat)
      case atStart => exact ⟨0, Nat.zero_le _, rfl, rfl, rfl⟩
      case round =>
        obtain ⟨k, hk, rfl, hall, rfl⟩ := hrel
        have HA := hide hall
        clear hall
        by_cases hlt : k < n
        · obtain ⟨x, hxk⟩ : ∃ x, Hid (d.1[k]? = some x) := ⟨_, List.getElem?_eq_getElem (by rw [hn.out]; exact hlt)⟩
          obtain ⟨b1, off1, Ax, cx, rfl, hb1, hck, hrk⟩ := H1.out.row X0.out hB hxk.out
          have hxw : x.length ≤ 1048576 := by have h5 := wtL_at kdL d.1 k x hxk.out; have h6 : kdL.wt x = x.length := wtL_int x; have := hw1.out; omega
          have HRK := hide hrk
          clear hrk
          cases hf : okRow J x
          · have hf' : mkListF x (J : Int) false = false := by rw [mkListF_row]; exact hf
            have HS := hide (allG_stop hxk.out hf)
            clear hf
            go_wp2_with (go_at_call 62; refine (s.mkList_any _ _ _ _ x _ _ _ HRK.out.sl hxw).mono ?_; rintro e w3 ⟨rfl, rfl⟩)
            go_ret
            exact ⟨ret_bool (by rw [← hR.out, HF.out, HS.out]; simp), X0.out⟩
          · have hf' : mkListF x (J : Int) false = true := by rw [mkListF_row]; exact hf
            have HS := hide (allG_step hxk.out HA.out hf)
            clear hf
            go_wp2_with (go_at_call 62; refine (s.mkList_any _ _ _ _ x _ _ _ HRK.out.sl hxw).mono ?_; rintro e w3 ⟨rfl, rfl⟩)
            go_roundw
            case rel => exact ⟨k + 1, by omega, by go_num, HS.out, trivial⟩
            case measure => simp [intOf]; omega
        · have HE := hide (allG_end (by rw [hn.out]; exact hlt) HA.out)
          have cB := B0.out.cell
          go_wp2_with fail
          obtain ⟨wo, rfl⟩ : ∃ wo : World, wo = wr := ⟨_, rfl⟩
          clear cB
          go_loopw [7, 38] (fun _ i wr => ∃ k : Nat, k ≤ n' ∧ i = .int .i64 k ∧ (d.2.take k).all (okComp J) = true ∧ wr = wo) (fun _ i _ => n' - (intOf i).toNat)
          case atStart => exact ⟨0, Nat.zero_le _, rfl, rfl, rfl⟩
          case round =>
            obtain ⟨k2, hk2, rfl, hall, rfl⟩ := hrel
            have HA2 := hide hall
            clear hall
            by_cases hlt2 : k2 < n'
            · obtain ⟨x, hxk⟩ : ∃ x, Hid (d.2[k2]? = some x) := ⟨_, List.getElem?_eq_getElem (by rw [hn'.out]; exact hlt2)⟩
              obtain ⟨b1, off1, Ax, cx, heq, hb1, hck, hrk⟩ := H2.out.row X0.out hB hxk.out
              simp only [Option.some.injEq, Addr.mk.injEq, and_true] at heq
              obtain ⟨rfl, rfl⟩ := heq
              have hxw : x.length ≤ 1048576 := by have h5 := wtL_at kdL d.2 k2 x hxk.out; have h6 : kdL.wt x = x.length := wtL_int x; have := hw2.out; omega
              have HRK := hide hrk
              clear hrk
              cases hf : okComp J x
              · have hf' : mkListF x (J : Int) true = false := by rw [mkListF_comp]; exact hf
                have HS := hide (allG_stop hxk.out hf)
                clear hf
                go_wp2_with (go_at_call 62; refine (s.mkList_any _ _ _ _ x _ _ _ HRK.out.sl hxw).mono ?_; rintro e w3 ⟨rfl, rfl⟩)
                go_ret
                exact ⟨ret_bool (by rw [← hR.out, HF.out, HS.out]; simp), X0.out⟩
              · have hf' : mkListF x (J : Int) true = true := by rw [mkListF_comp]; exact hf
                have HS := hide (allG_step hxk.out HA2.out hf)
                clear hf
                go_wp2_with (go_at_call 62; refine (s.mkList_any _ _ _ _ x _ _ _ HRK.out.sl hxw).mono ?_; rintro e w3 ⟨rfl, rfl⟩)
                go_roundw
                case rel => exact ⟨k2 + 1, by omega, by go_num, HS.out, trivial⟩
                case measure => simp [intOf]; omega
            · have HE2 := hide (allG_end (by rw [hn'.out]; exact hlt2) HA2.out)
              go_wp2_with (go_at_call 63; refine (s.l1In_any _ _ _ _).mono ?_; rintro e w3 ⟨rfl, rfl⟩)
              go_ret
              exact ⟨ret_bool (by rw [← hR.out, HF.out, HE.out, HE2.out]; simp), X0.out⟩
  · have hc3 : ((n' : Int) != 3) = true := by simp; omega
    have HF : Hid (marksB d = false) := by show _ = _; have := hn'.out; simp [marksB]; omega
    rw [HF.out]
    clear hc
    go_enter Tryz.func30, Tryz.ntmps30
    go_wp2_with fail
    go_ret
    exact ⟨rfl, Ext.alloc _ _⟩
end Go.Proofs.YtnokilofcdbjhaaGreatDoor

/- Marks as the laws hand them about. -/
namespace Go.Proofs.YtnokilofcdbjhaaGreatDoor
open Go.RowKit Go.Sort
set_option linter.unusedVariables false

theorem cntLL_le (xs : List (List Int)) : kdLL.cnt xs ≤ kdLL.wt xs := by
  induction xs with
  | nil => exact Nat.le_refl _
  | cons x t ih =>
    have h1 : kdLL.cnt (x :: t) = cntL kdInt x + kdLL.cnt t := rfl
    have h2 : kdLL.wt (x :: t) = 1 + wtL kdInt x + kdLL.wt t := rfl
    rw [h1, h2, cntL_int, wtL_int]
    omega
theorem marksB_three {d : MD} (h : marksB d = true) : d.2.length = 3 := by
  simp [marksB] at h
  omega
theorem cntM_le (d : MD) : kdM.cnt d ≤ kdM.wt d := by
  have h1 := cntLL_le d.1
  have h2 := cntLL_le d.2
  have : kdM.cnt d = kdLL.cnt d.1 + kdLL.cnt d.2 := rfl
  have : kdM.wt d = kdLL.wt d.1 + kdLL.wt d.2 := rfl
  omega

def kM : Kind MD where
  rd w v d := ∃ vs, v = kdM.val vs ∧ kdM.rd w w.heap.size vs d
  fr w lo hi v d := ∃ vs fp, v = kdM.val vs ∧ kdM.own w vs d fp ∧ (∀ i ∈ fp, lo ≤ i ∧ i < hi)
  ok d := kdM.wt d ≤ 1048576
  mrk := kdM.mrk
  cnt := kdM.cnt
  rd_ext := by
    rintro w w' v d ⟨vs, rfl, h⟩ hx
    exact ⟨vs, rfl, kdM.rd_more (kdM.rd_ext h hx (Nat.le_refl _)) hx.size⟩
  fr_rd := by
    rintro w lo hi v d ⟨vs, fp, rfl, h, _⟩
    exact ⟨vs, rfl, kdM.own_rd h⟩
  fr_tch := by
    rintro w w' lo hi lo' hi' v d ⟨vs, fp, rfl, h, hf⟩ k hd
    refine ⟨vs, fp, rfl, kdM.own_keep h (fun i hi' => k.block i (kdM.own_lt h i hi') ?_), hf⟩
    have := hf i hi'
    omega
  ok_cnt := fun {d} h => Nat.le_trans (Nat.le_trans (cntM_le d) h) (by decide)

def kM.wt (d : MD) : Nat := kdM.wt d
theorem kM.ok_of {d : MD} (h : ¬ 1048576 < kM.wt d) : kM.ok d := Nat.le_of_not_lt h
/-- The shape of a value that reads as marks. -/
theorem kM.shape {w : World} {v : Value} {d : MD} (h : kM.rd w v d) : ∃ A n c A' n' c', v = .agg #[.slice A n c, .slice A' n' c'] := by
  obtain ⟨vs, rfl, h⟩ := h
  obtain ⟨A, c, A', c', rfl, _⟩ := kdM.open_ h
  exact ⟨A, _, c, A', _, c', rfl⟩
theorem kM.lr {w : World} {v : Value} {d : MD} (h : kM.rd w v d) : ∃ A c A' c', v = .agg #[.slice A d.1.length c, .slice A' d.2.length c'] ∧ LR kdL w w.heap.size A c d.1 ∧ LR kdL w w.heap.size A' c' d.2 := by
  obtain ⟨vs, rfl, h⟩ := h
  obtain ⟨A, c, A', c', rfl, h1, h2⟩ := kdM.open_ h
  exact ⟨A, c, A', c', rfl, h1, h2⟩

/-! ### AreMarks -/
def areMarksF (d : MD) (z : Int) : Bool := marksB d && ((d.1.length : Int) == z)

set_option maxHeartbeats 1000000 in
theorem s.mkGood_m (w : World) (v : Value) (d : MD) (z : Int) (h : kM.rd w v d) (hok : kM.ok d) :
    Calls Tryz.prog 52 #[v, .int .i64 z] w fun e w' => e = .returned (.bool (areMarksF d z)) ∧ Ext w w' := by
  obtain ⟨A, c, A', c', rfl, h1, h2⟩ := kM.lr h
  have hok : kdM.wt d ≤ 1048576 := hok
  obtain ⟨R, hR⟩ : ∃ R, Hid (areMarksF d z = R) := ⟨_, rfl⟩
  rw [hR.out]
  have H1 := hide h1
  have H2 := hide h2
  clear h h1 h2
  obtain ⟨n, hn⟩ : ∃ n, Hid (d.1.length = n) := ⟨_, rfl⟩
  obtain ⟨n', hn'⟩ : ∃ n', Hid (d.2.length = n') := ⟨_, rfl⟩
  rw [hn.out, hn'.out]
  obtain ⟨W0, hW0⟩ : ∃ W0, Hid (W0 = w.alloc (.cells #[.slice A n c, .slice A' n' c'] 25)) := ⟨_, rfl⟩
  have X0 : Hid (Ext w W0) := by rw [hW0.out]; exact Ext.alloc w _
  have B0 : Hid (Blk W0 w.heap.size #[.slice A n c, .slice A' n' c'] 25) := by rw [hW0.out]; exact Blk.new rfl _ _
  go_enter Tryz.func52, Tryz.ntmps52
  go_wp2_with fail
  rw [← hW0.out]
  have hc := s.mkAll_any A A' c c' w.heap.size d W0 (H1.out.ext X0.out (Nat.le_refl _)) (H2.out.ext X0.out (Nat.le_refl _)) X0.out.size hok
  rw [hn.out, hn'.out] at hc
  refine hc.mono ?_
  rintro e w1 ⟨rfl, hx⟩
  have X1 := hide (X0.out.trans hx)
  replace B0 := hide (B0.out.ext hx)
  clear hx hc hW0
  have cB := B0.out.cell
  cases hm : marksB d
  · have HM := hide hm
    clear hm
    go_wp2
    go_ret
    exact ⟨ret_bool (by rw [← hR.out]; simp [areMarksF, HM.out]), X1.out⟩
  · have HM := hide hm
    clear hm
    go_wp2
    go_ret
    exact ⟨ret_bool (by rw [← hR.out]; simp [areMarksF, HM.out, hn.out]), X1.out⟩

set_option maxHeartbeats 1000000 in
theorem i.AreMarks_m (w : World) (v : Value) (d : MD) (z : Int) (h : kM.rd w v d) (hok : kM.ok d) :
    Calls Tryz.prog 20 #[v, .int .i64 z] w fun e w' => e = .returned (.bool (areMarksF d z)) ∧ Ext w w' := by
  obtain ⟨A, c, A', c', rfl, h1, h2⟩ := kM.lr h
  have hok : kdM.wt d ≤ 1048576 := hok
  obtain ⟨R, hR⟩ : ∃ R, Hid (areMarksF d z = R) := ⟨_, rfl⟩
  rw [hR.out]
  have H1 := hide h1
  have H2 := hide h2
  clear h h1 h2
  obtain ⟨n, hn⟩ : ∃ n, Hid (d.1.length = n) := ⟨_, rfl⟩
  obtain ⟨n', hn'⟩ : ∃ n', Hid (d.2.length = n') := ⟨_, rfl⟩
  rw [hn.out, hn'.out]
  obtain ⟨W0, hW0⟩ : ∃ W0, Hid (W0 = w.alloc (.cells #[.slice A n c, .slice A' n' c'] 25)) := ⟨_, rfl⟩
  have X0 : Hid (Ext w W0) := by rw [hW0.out]; exact Ext.alloc w _
  have B0 : Hid (Blk W0 w.heap.size #[.slice A n c, .slice A' n' c'] 25) := by rw [hW0.out]; exact Blk.new rfl _ _
  go_enter Tryz.func20, Tryz.ntmps20
  go_wp2_with fail
  rw [← hW0.out]
  have hc := i.isMarks_any A A' c c' w.heap.size d W0 (H1.out.ext X0.out (Nat.le_refl _)) (H2.out.ext X0.out (Nat.le_refl _)) X0.out.size hok
  rw [hn.out, hn'.out] at hc
  refine hc.mono ?_
  rintro e w1 ⟨rfl, hx⟩
  have X1 := hide (X0.out.trans hx)
  replace B0 := hide (B0.out.ext hx)
  clear hx hc hW0
  have cB := B0.out.cell
  cases hm : marksB d
  · have HM := hide hm
    clear hm
    go_wp2
    go_ret
    exact ⟨ret_bool (by rw [← hR.out]; simp [areMarksF, HM.out]), X1.out⟩
  · have HM := hide hm
    clear hm
    go_wp2
    go_ret
    exact ⟨ret_bool (by rw [← hR.out]; simp [areMarksF, HM.out, hn.out]), X1.out⟩

theorem i.AreMarks_law (w : World) (v : Value) (d : MD) (z : Int) (h : kM.rd w v d) (hok : kM.ok d) (hz : InR z) :
    Calls Tryz.prog 20 #[v, .int .i64 z] w fun e w' => e = .returned (.bool (areMarksF d z)) ∧ Ext w w' := i.AreMarks_m w v d z h hok
theorem s.AreMarks_law (w : World) (v : Value) (d : MD) (z : Int) (h : kM.rd w v d) (hok : kM.ok d) (hz : InR z) :
    Calls Tryz.prog 21 #[v, .int .i64 z] w fun e w' => e = .returned (.bool (areMarksF d z)) ∧ Ext w w' := by
  obtain ⟨A, n, c, A', n', c', rfl⟩ := kM.shape h
  have h' := hide (kM.rd_ext h (Ext.alloc w (.cells #[.slice A n c, .slice A' n' c'] 25)))
  clear h
  go_enter Tryz.func21, Tryz.ntmps21
  go_wp2_with (go_at_call 52; refine (s.mkGood_m _ _ d _ h'.out hok).mono ?_; rintro e w1 ⟨rfl, hx⟩)
  go_ret
  exact ⟨rfl, (Ext.alloc _ _).trans hx⟩

/-! ### JudgesOf -/
def judgesOfF (d : MD) : Int × Bool := if marksB d then ((judges d : Int), true) else (0, false)
set_option maxHeartbeats 1000000 in
theorem s.JudgesOf_law (w : World) (v : Value) (d : MD) (h : kM.rd w v d) (hok : kM.ok d) :
    Calls Tryz.prog 8 #[v] w fun e w' => e = .returned (.tuple #[.int .i64 (judgesOfF d).1, .bool (judgesOfF d).2]) ∧ Ext w w' := by
  obtain ⟨A, c, A', c', rfl, h1, h2⟩ := kM.lr h
  have hok : kdM.wt d ≤ 1048576 := hok
  have H1 := hide h1
  have H2 := hide h2
  clear h h1 h2
  obtain ⟨R1, hR1⟩ : ∃ R, Hid ((judgesOfF d).1 = R) := ⟨_, rfl⟩
  obtain ⟨R2, hR2⟩ : ∃ R, Hid ((judgesOfF d).2 = R) := ⟨_, rfl⟩
  rw [hR1.out, hR2.out]
  obtain ⟨n, hn⟩ : ∃ n, Hid (d.1.length = n) := ⟨_, rfl⟩
  obtain ⟨n', hn'⟩ : ∃ n', Hid (d.2.length = n') := ⟨_, rfl⟩
  rw [hn.out, hn'.out]
  obtain ⟨W0, hW0⟩ : ∃ W0, Hid (W0 = w.alloc (.cells #[.slice A n c, .slice A' n' c'] 25)) := ⟨_, rfl⟩
  have X0 : Hid (Ext w W0) := by rw [hW0.out]; exact Ext.alloc w _
  have B0 : Hid (Blk W0 w.heap.size #[.slice A n c, .slice A' n' c'] 25) := by rw [hW0.out]; exact Blk.new rfl _ _
  go_enter Tryz.func8, Tryz.ntmps8
  go_wp2_with fail
  rw [← hW0.out]
  have hc := s.mkAll_any A A' c c' w.heap.size d W0 (H1.out.ext X0.out (Nat.le_refl _)) (H2.out.ext X0.out (Nat.le_refl _)) X0.out.size hok
  rw [hn.out, hn'.out] at hc
  refine hc.mono ?_
  rintro e w1 ⟨rfl, hx⟩
  have X1 := hide (X0.out.trans hx)
  replace B0 := hide (B0.out.ext hx)
  clear hx hc hW0
  have cB := B0.out.cell
  cases hm : marksB d
  · have HM := hide hm
    clear hm
    go_wp2
    go_ret2
    refine ⟨?_, X1.out⟩
    have e1 : R1 = 0 := by rw [← hR1.out]; simp [judgesOfF, HM.out]
    have e2 : R2 = false := by rw [← hR2.out]; simp [judgesOfF, HM.out]
    rw [e1, e2]; rfl
  · have h0 : 0 < d.2.length := by have := marksB_three hm; omega
    have HM := hide hm
    clear hm
    go_wp2_with (go_at_call 33; refine (s.mkJudges_any A A' n n' c c' w.heap.size d w1 (H2.out.ext X1.out (Nat.le_refl _)) X1.out.size h0 hn'.out.symm).mono ?_; rintro e w2 ⟨rfl, hx2⟩)
    go_ret2
    refine ⟨?_, X1.out.trans hx2⟩
    have e1 : R1 = judges d := by rw [← hR1.out]; simp [judgesOfF, HM.out]
    have e2 : R2 = true := by rw [← hR2.out]; simp [judgesOfF, HM.out]
    rw [e1, e2]; rfl

set_option maxHeartbeats 1000000 in
theorem i.JudgesOf_law (w : World) (v : Value) (d : MD) (h : kM.rd w v d) (hok : kM.ok d) :
    Calls Tryz.prog 7 #[v] w fun e w' => e = .returned (.tuple #[.int .i64 (judgesOfF d).1, .bool (judgesOfF d).2]) ∧ Ext w w' := by
  obtain ⟨A, c, A', c', rfl, h1, h2⟩ := kM.lr h
  have hok : kdM.wt d ≤ 1048576 := hok
  have H1 := hide h1
  have H2 := hide h2
  clear h h1 h2
  obtain ⟨R1, hR1⟩ : ∃ R, Hid ((judgesOfF d).1 = R) := ⟨_, rfl⟩
  obtain ⟨R2, hR2⟩ : ∃ R, Hid ((judgesOfF d).2 = R) := ⟨_, rfl⟩
  rw [hR1.out, hR2.out]
  obtain ⟨n, hn⟩ : ∃ n, Hid (d.1.length = n) := ⟨_, rfl⟩
  obtain ⟨n', hn'⟩ : ∃ n', Hid (d.2.length = n') := ⟨_, rfl⟩
  rw [hn.out, hn'.out]
  obtain ⟨W0, hW0⟩ : ∃ W0, Hid (W0 = w.alloc (.cells #[.slice A n c, .slice A' n' c'] 25)) := ⟨_, rfl⟩
  have X0 : Hid (Ext w W0) := by rw [hW0.out]; exact Ext.alloc w _
  have B0 : Hid (Blk W0 w.heap.size #[.slice A n c, .slice A' n' c'] 25) := by rw [hW0.out]; exact Blk.new rfl _ _
  go_enter Tryz.func7, Tryz.ntmps7
  go_wp2_with fail
  rw [← hW0.out]
  have hc := i.isMarks_any A A' c c' w.heap.size d W0 (H1.out.ext X0.out (Nat.le_refl _)) (H2.out.ext X0.out (Nat.le_refl _)) X0.out.size hok
  rw [hn.out, hn'.out] at hc
  refine hc.mono ?_
  rintro e w1 ⟨rfl, hx⟩
  have X1 := hide (X0.out.trans hx)
  replace B0 := hide (B0.out.ext hx)
  clear hx hc hW0
  have cB := B0.out.cell
  cases hm : marksB d
  · have HM := hide hm
    clear hm
    go_wp2
    go_ret2
    refine ⟨?_, X1.out⟩
    have e1 : R1 = 0 := by rw [← hR1.out]; simp [judgesOfF, HM.out]
    have e2 : R2 = false := by rw [← hR2.out]; simp [judgesOfF, HM.out]
    rw [e1, e2]; rfl
  · have h0 : 0 < d.2.length := by have := marksB_three hm; omega
    have HM := hide hm
    clear hm
    go_wp2_with (go_at_call 32; refine (i.judgesOf_any A A' n n' c c' w.heap.size d w1 (H2.out.ext X1.out (Nat.le_refl _)) X1.out.size h0 hn'.out.symm).mono ?_; rintro e w2 ⟨rfl, hx2⟩)
    go_ret2
    refine ⟨?_, X1.out.trans hx2⟩
    have e1 : R1 = judges d := by rw [← hR1.out]; simp [judgesOfF, HM.out]
    have e2 : R2 = true := by rw [← hR2.out]; simp [judgesOfF, HM.out]
    rw [e1, e2]; rfl
end Go.Proofs.YtnokilofcdbjhaaGreatDoor

/- Marks that have a judge; the marks of one judge. -/
namespace Go.Proofs.YtnokilofcdbjhaaGreatDoor
open Go.RowKit Go.Sort
set_option linter.unusedVariables false

def hasJudge (d : MD) (j : Int) : Bool := marksB d && inB 0 ((judges d : Int) - 1) j
theorem marksB_ok {d : MD} (h : marksB d = true) : d.1.length ≤ 14 ∧ d.2.length = 3 ∧ 3 ≤ judges d ∧ judges d ≤ 9 ∧ (∀ x ∈ d.1, x.length = judges d ∧ ∀ z ∈ x, -5 ≤ z ∧ z ≤ 5) ∧ (∀ x ∈ d.2, x.length = judges d ∧ ∀ z ∈ x, 0 ≤ z ∧ z ≤ 1000 ∧ z.tmod 25 = 0) := by
  simp only [marksB, inB, okRow, okComp, compMark, Bool.and_eq_true, decide_eq_true_eq, List.all_eq_true, beq_iff_eq] at h
  obtain ⟨⟨⟨⟨h1, h2⟩, h3, h4⟩, h5⟩, h6⟩ := h
  exact ⟨h1, h2, by omega, by omega, fun x hx => ⟨(h5 x hx).1, fun z hz => (h5 x hx).2 z hz⟩, fun x hx => ⟨(h6 x hx).1, fun z hz => have h7 := (h6 x hx).2 z hz; ⟨h7.1.1, h7.1.2, h7.2⟩⟩⟩
theorem hasJudge_ok {d : MD} {j : Int} (h : hasJudge d j = true) : marksB d = true ∧ ∃ k : Nat, j = k ∧ k < judges d := by
  simp only [hasJudge, inB, Bool.and_eq_true, decide_eq_true_eq] at h
  exact ⟨h.1, j.toNat, by omega, by omega⟩
theorem rows_ok {d : MD} {k : Nat} (h : marksB d = true) (hk : k < judges d) : (∀ x ∈ d.1, k < x.length ∧ x.length ≤ 9) ∧ (∀ x ∈ d.2, k < x.length ∧ x.length ≤ 9) := by
  obtain ⟨_, _, _, h4, h5, h6⟩ := marksB_ok h
  exact ⟨fun x hx => by have := (h5 x hx).1; omega, fun x hx => by have := (h6 x hx).1; omega⟩

set_option maxHeartbeats 1000000 in
theorem i.isJudge_m (w : World) (v : Value) (d : MD) (z : Int) (h : kM.rd w v d) (hok : kM.ok d) :
    Calls Tryz.prog 53 #[v, .int .i64 z] w fun e w' => e = .returned (.bool (hasJudge d z)) ∧ Ext w w' := by
  obtain ⟨A, c, A', c', rfl, h1, h2⟩ := kM.lr h
  have hok : kdM.wt d ≤ 1048576 := hok
  obtain ⟨R, hR⟩ : ∃ R, Hid (hasJudge d z = R) := ⟨_, rfl⟩
  rw [hR.out]
  have H1 := hide h1
  have H2 := hide h2
  clear h h1 h2
  obtain ⟨n, hn⟩ : ∃ n, Hid (d.1.length = n) := ⟨_, rfl⟩
  obtain ⟨n', hn'⟩ : ∃ n', Hid (d.2.length = n') := ⟨_, rfl⟩
  rw [hn.out, hn'.out]
  obtain ⟨W0, hW0⟩ : ∃ W0, Hid (W0 = w.alloc (.cells #[.slice A n c, .slice A' n' c'] 25)) := ⟨_, rfl⟩
  have X0 : Hid (Ext w W0) := by rw [hW0.out]; exact Ext.alloc w _
  have B0 : Hid (Blk W0 w.heap.size #[.slice A n c, .slice A' n' c'] 25) := by rw [hW0.out]; exact Blk.new rfl _ _
  go_enter Tryz.func53, Tryz.ntmps53
  go_wp2_with fail
  rw [← hW0.out]
  have hc := i.isMarks_any A A' c c' w.heap.size d W0 (H1.out.ext X0.out (Nat.le_refl _)) (H2.out.ext X0.out (Nat.le_refl _)) X0.out.size hok
  rw [hn.out, hn'.out] at hc
  refine hc.mono ?_
  rintro e w1 ⟨rfl, hx⟩
  have X1 := hide (X0.out.trans hx)
  replace B0 := hide (B0.out.ext hx)
  clear hx hc hW0
  have cB := B0.out.cell
  cases hm : marksB d
  · have HM := hide hm
    clear hm
    go_wp2
    go_ret
    exact ⟨ret_bool (by rw [← hR.out]; simp [hasJudge, HM.out]), X1.out⟩
  · have h0 : 0 < d.2.length := by have := marksB_three hm; omega
    have hJ : judges d ≤ 9 := (marksB_ok hm).2.2.2.1
    have HM := hide hm
    clear hm
    obtain ⟨J, HJ⟩ : ∃ J, Hid (judges d = J) := ⟨_, rfl⟩
    rw [HJ.out] at hJ
    have hc := i.judgesOf_any A A' n n' c c' w.heap.size d w1 (H2.out.ext X1.out (Nat.le_refl _)) X1.out.size h0 hn'.out.symm
    rw [HJ.out] at hc
    have HC := hide hc
    clear hc
    go_wp2_with (first
      | (go_at_call 32; refine HC.out.mono ?_; rintro e w2 ⟨rfl, hx2⟩; have X2 := hide (X1.out.trans hx2); clear hx2)
      | (go_at_call 46; refine (i.within_any _ _ _ _).mono ?_; rintro e w3 ⟨rfl, rfl⟩))
    go_ret
    exact ⟨ret_bool (by rw [← hR.out]; simp [hasJudge, HM.out, HJ.out]), X2.out⟩

/-! ### The marks of a judge in some lists -/
def colF (xs : List (List Int)) (j : Nat) : List Int := xs.map (·.getD j 0)
theorem colF_len (xs : List (List Int)) (j : Nat) : (colF xs j).length = xs.length := by simp [colF]
theorem colF_succ {xs : List (List Int)} {j k : Nat} {x : List Int} (h : xs[k]? = some x) : (colF xs j).take (k + 1) = (colF xs j).take k ++ [x.getD j 0] := by
  obtain ⟨hk, rfl⟩ := List.getElem?_eq_some_iff.1 h
  rw [List.take_succ_eq_append_getElem (by rw [colF_len]; exact hk)]
  simp [colF]

end Go.Proofs.YtnokilofcdbjhaaGreatDoor

/- The marks of one judge: the laws' two functions. -/
namespace Go.Proofs.YtnokilofcdbjhaaGreatDoor
open Go.RowKit Go.Sort
set_option linter.unusedVariables false

def judgeMarksF (d : MD) (j : Int) : List Int × List Int × Bool := if hasJudge d j then (colF d.1 j.toNat, colF d.2 j.toNat, true) else ([], [], false)

theorem held_keep {w1 w' w'' : World} {g : Nat} {cs : Array Value} {t : TypeId} (hb : Blk w1 g cs t) (h : Hid (Ext w1 w')) (k : Ext w' w'') : (∀ i, w''.cell? ⟨g, i, none⟩ = cs[i]?) ∧ Hid (Ext w1 w'') :=
  ⟨(hb.ext (h.out.trans k)).cell, h.out.trans k⟩

/-- Two objects lie in blocks of their own. -/
def Apart (A A' : Option Addr) : Prop := ∀ p q, A = some p → A' = some q → p.block ≠ q.block
theorem Apart.symm {A A' : Option Addr} (h : Apart A A') : Apart A' A := fun p q hp hq e => h q p hq hp e.symm
section
variable {e : TypeId} {w w' : World} {lo lo' n c n' c' : Nat} {A A' : Option Addr} {vs vs' : List Value} {zs zs' : List Int}
theorem Own.keepB (h : Own e w lo A n c vs) (hk : ∀ p, A = some p → w'.heap[p.block]? = w.heap[p.block]?) : Own e w' lo A n c vs := by
  refine ⟨h.1, ?_⟩
  rcases h.2 with h | ⟨g, cap, cur, h, h1, h2, r⟩
  · exact .inl h
  · refine .inr ⟨g, cap, cur, h, h1, ?_, r⟩
    simp only [Value.slice.injEq] at h
    rw [hk _ h.1, h2]
theorem Own.raise (h : Own e w lo A n c vs) (hl : ∀ p, A = some p → lo' ≤ p.block) : Own e w lo' A n c vs := by
  refine ⟨h.1, ?_⟩
  rcases h.2 with h | ⟨g, cap, cur, h, h1, r⟩
  · exact .inl h
  · refine .inr ⟨g, cap, cur, h, ?_, r⟩
    simp only [Value.slice.injEq] at h
    exact hl _ h.1
theorem Own.lt (h : Own e w lo A n c vs) : ∀ p, A = some p → p.block < w.heap.size := by
  rintro p rfl
  rcases h.form with ⟨h, _⟩ | ⟨g, h, _, h1, _⟩
  · cases h
  · injection h with h; subst h; exact h1
/-- An append onto one leaves the other. -/
theorem Own.apd2 {A2 : Option Addr} {n2 c2 lo2 : Nat} {vs2 : List Value} (h : Own e w lo2 A2 n2 c2 vs2) (ha : Apd e w lo A w' A' n' c' vs') (hne : Apart A A2) : Own e w' lo2 A2 n2 c2 vs2 ∧ Apart A' A2 := by
  have ht := TchF.of_grown (fp := (A.map (·.block)).toList) ha.grew (fun p hp => by subst hp; simp)
  refine ⟨h.keepB fun p hp => ht.block _ (h.lt p hp) fun hm => ?_, fun p q hp hq => ?_⟩
  · cases A with
    | none => simp at hm
    | some a => simp at hm; exact hne a p rfl hp hm.symm
  · have hw := ha.where_
    subst hp
    rcases hw with hw | hw
    · cases A with
      | none => simp at hw
      | some a => simp at hw; rw [hw]; exact hne a q rfl hq
    · simp at hw
      have := h.lt q hq
      omega
theorem Blk.apd {g : Nat} {cs : Array Value} {t : TypeId} (h : Blk w g cs t) (ha : Apd e w lo A w' A' n' c' vs') (hne : ∀ p, A = some p → p.block ≠ g) : Blk w' g cs t :=
  h.tchF (TchF.of_grown (fp := (A.map (·.block)).toList) ha.grew (fun p hp => by subst hp; simp)) fun hm => by
    cases A with
    | none => simp at hm
    | some a => simp at hm; exact hne a rfl hm.symm
theorem two_own (h : OwnI e w lo A n c zs) (h' : OwnI e w lo A' n' c' zs') (hne : Apart A A') (hlo : lo ≤ w.heap.size) :
    ∃ l0 h0 l1 h1, FrI e w l0 h0 A n c zs ∧ FrI e w l1 h1 A' n' c' zs' ∧ (lo ≤ l0 ∧ lo ≤ l1 ∧ h0 ≤ w.heap.size ∧ h1 ≤ w.heap.size ∧ (h0 ≤ l1 ∨ h1 ≤ l0)) := by
  rcases A with _ | a
  · exact ⟨lo, lo, lo, w.heap.size, ⟨Own.raise h (by simp), hlo, by simp⟩, h'.fr, by omega⟩
  · rcases A' with _ | b
    · exact ⟨lo, w.heap.size, lo, lo, h.fr, ⟨Own.raise h' (by simp), hlo, by simp⟩, by omega⟩
    · have h1 := Own.lt h a rfl
      have h2 := Own.lt h' b rfl
      have h3 := Own.fromLo h a rfl
      have h4 := Own.fromLo h' b rfl
      have h5 := hne a b rfl rfl
      exact ⟨a.block, a.block + 1, b.block, b.block + 1, ⟨Own.raise h (fun p hp => by cases hp; exact Nat.le_refl _), h1, fun p hp => by cases hp; exact Nat.lt_succ_self _⟩, ⟨Own.raise h' (fun p hp => by cases hp; exact Nat.le_refl _), h2, fun p hp => by cases hp; exact Nat.lt_succ_self _⟩, by omega⟩
end
/-- What two lists of numbers among a call's results are: objects of its own, apart from each other. -/
def TwoFr (w w' : World) (v0 v1 : Value) (z0 z1 : List Int) (l0 h0 l1 h1 : Nat) : Prop :=
  kI.fr w' l0 h0 v0 z0 ∧ kI.ok z0 ∧ kI.fr w' l1 h1 v1 z1 ∧ kI.ok z1 ∧ (w.heap.size ≤ l0 ∧ w.heap.size ≤ l1 ∧ h0 ≤ w'.heap.size ∧ h1 ≤ w'.heap.size ∧ (h0 ≤ l1 ∨ h1 ≤ l0)) ∧ Ext w w'
theorem kI.fr_nil (w : World) (lo hi : Nat) (h : hi ≤ w.heap.size) : kI.fr w lo hi (.slice none 0 0) [] := ⟨none, 0, rfl, OwnI.nil, h, fun p hp => by cases hp⟩

set_option maxRecDepth 100000 in
set_option maxHeartbeats 2000000 in
theorem i.JudgeMarks_law (w : World) (v : Value) (d : MD) (z : Int) (h : kM.rd w v d) (hok : kM.ok d) (hz : InR z) :
    Calls Tryz.prog 22 #[v, .int .i64 z] w fun e w' => ∃ v0 v1 l0 h0 l1 h1, e = .returned (.tuple #[v0, v1, .bool (judgeMarksF d z).2.2]) ∧ TwoFr w w' v0 v1 (judgeMarksF d z).1 (judgeMarksF d z).2.1 l0 h0 l1 h1 := by
  obtain ⟨A, c, A', c', rfl, h1, h2⟩ := kM.lr h
  have HR := hide h
  have H1 := hide h1
  have H2 := hide h2
  have a1 := h1.1; have a2 := h1.2.1; have a3 := h2.1; have a4 := h2.2.1
  clear h h1 h2
  obtain ⟨n, hn⟩ : ∃ n, Hid (d.1.length = n) := ⟨_, rfl⟩
  obtain ⟨n', hn'⟩ : ∃ n', Hid (d.2.length = n') := ⟨_, rfl⟩
  rw [hn.out, hn'.out] at HR ⊢
  rw [hn.out] at a1
  rw [hn'.out] at a3
  obtain ⟨W0, hW0⟩ : ∃ W0, Hid (W0 = w.alloc (.cells #[.slice A n c, .slice A' n' c'] 25)) := ⟨_, rfl⟩
  have X0 : Hid (Ext w W0) := by rw [hW0.out]; exact Ext.alloc w _
  have B0 : Hid (Blk W0 w.heap.size #[.slice A n c, .slice A' n' c'] 25) := by rw [hW0.out]; exact Blk.new rfl _ _
  obtain ⟨F, hF⟩ : ∃ F, Hid (judgeMarksF d z = F) := ⟨_, rfl⟩
  rw [hF.out]
  go_enter Tryz.func22, Tryz.ntmps22
  go_wp2_with fail
  rw [← hW0.out]
  refine (i.isJudge_m _ _ d z (kM.rd_ext HR.out X0.out) hok).mono ?_
  rintro e w1 ⟨rfl, hx⟩
  have X1 := hide (X0.out.trans hx)
  replace B0 := hide (B0.out.ext hx)
  clear hx hW0
  cases hm : hasJudge d z
  · have HM := hide hm
    clear hm
    have cB := B0.out.cell
    go_wp2
    go_ret3
    have hf : F = ([], [], false) := by rw [← hF.out]; simp [judgeMarksF, HM.out]
    subst hf
    exact ⟨_, _, w.heap.size, w.heap.size, w.heap.size, w.heap.size, rfl, kI.fr_nil _ _ _ X1.out.size, Nat.zero_le _, kI.fr_nil _ _ _ X1.out.size, Nat.zero_le _, by have := X1.out.size; omega, X1.out⟩
  · obtain ⟨hm', j, rfl, hk⟩ := hasJudge_ok hm
    have HM := hide hm
    have r0 := rows_ok hm' hk
    have r1 := marksB_ok hm'
    have l1 : n ≤ 14 := by have := r1.1; rw [hn.out] at this; exact this
    have l2 : n' ≤ 14 := by have := r1.2.1; rw [hn'.out] at this; omega
    have hf : Hid (F = (colF d.1 j, colF d.2 j, true)) := by show _ = _; rw [← hF.out]; simp [judgeMarksF, HM.out]
    have HR1 := hide r0.1
    have HR2 := hide r0.2
    clear hm hm' r0 r1 hF hk
    obtain ⟨W2, hW2⟩ : ∃ W2, Hid (W2 = (w1.alloc (.cells #[] 3)).alloc (.cells #[] 3)) := ⟨_, rfl⟩
    have x2 : Ext w1 W2 := by rw [hW2.out]; exact (Ext.alloc w1 _).trans (Ext.alloc _ _)
    have O1 : Hid (OwnI 3 W2 (w.heap.size + 1) (some ⟨w1.heap.size, 0, none⟩) 0 0 []) := by rw [hW2.out]; exact (Own.empty w1 3 B0.out.lt).alloc _
    have O2 : Hid (OwnI 3 W2 (w.heap.size + 1) (some ⟨w1.heap.size + 1, 0, none⟩) 0 0 []) := by rw [hW2.out]; exact Own.emptyAt (by simp) 3 (by have := X1.out.size; omega)
    have N0 : Hid (Apart (some ⟨w1.heap.size, 0, none⟩) (some ⟨w1.heap.size + 1, 0, none⟩)) := fun p q hp hq => by cases hp; cases hq; simp
    have X2 := hide (X1.out.trans x2)
    replace B0 := hide (B0.out.ext x2)
    clear x2
    have cB1 := B0.out.cell
    have cB0 : ∀ i, ((w1.alloc (.cells #[] 3)).alloc (.cells #[] 3)).cell? ⟨w.heap.size, i, none⟩ = #[Value.slice A n c, .slice A' n' c'][i]? := by rw [← hW2.out]; exact cB1
    go_wp2
    rw [← hW2.out]
    clear hW2 cB1 cB0
    have BL := hide (B0.out.lt)
    go_loopw [7, 22] (fun o i wr => ∃ (k : Nat) (A1 : Option Addr) (c1 : Nat), k ≤ n ∧ i = .int .i64 k ∧ o = .slice A1 k c1 ∧ OwnI 3 wr (w.heap.size + 1) A1 k c1 ((colF d.1 j).take k) ∧ OwnI 3 wr (w.heap.size + 1) (some ⟨w1.heap.size + 1, 0, none⟩) 0 0 [] ∧ Apart A1 (some ⟨w1.heap.size + 1, 0, none⟩) ∧ Blk wr w.heap.size #[Value.slice A n c, .slice A' n' c'] 25 ∧ Ext w wr) (fun _ i _ => n - (intOf i).toNat)
    case atStart => exact ⟨0, _, _, Nat.zero_le _, rfl, rfl, O1.out, O2.out, N0.out, B0.out, X2.out⟩
    case round =>
      obtain ⟨k, A1, c1, hk, rfl, rfl, hown, hown2, hap, hB, hx⟩ := hrel
      replace O1 := hide hown
      replace O2 := hide hown2
      replace N0 := hide hap
      replace B0 := hide hB
      have HX := hide hx
      have q1 := hown.capn; have q2 := hown.capm
      clear hown hown2 hap hB hx
      by_cases hlt : k < n
      · obtain ⟨x, hxk⟩ : ∃ x, Hid (d.1[k]? = some x) := ⟨_, List.getElem?_eq_getElem (by rw [hn.out]; exact hlt)⟩
        obtain ⟨hjx, hx9⟩ := HR1.out x (List.mem_of_getElem? hxk.out)
        obtain ⟨b, off, Ak, ck, rfl, hb, hck, hrk⟩ := H1.out.row HX.out (Nat.le_refl _) hxk.out
        obtain ⟨b2, off2, rfl, hb2, hc⟩ := hrk.sl.cells (by omega)
        have hcj := hc j hjx
        have HS := hide (colF_succ (j := j) hxk.out)
        have hz := hrk.1
        clear hc hrk
        generalize x.getD j 0 = y at *
        generalize x.length = m at *
        go_wp2_with (at_builtin; refine wpList_append_sl rfl (.tmp 26) (.tmp 31) rfl elem_int rfl rfl (Own.alloc O1.out _) (Sl.one wr (.int .i64 y) 3) (one_int y) ?c1 ?c2 ?c3 ?_)
        case c1 => omega
        case c2 => omega
        case c3 => have := B0.out.lt; simp; omega
        intro A2 c2 w2 hap
        have HA := hide hap
        clear hap
        go_wp2
        go_roundw
        case rel =>
          have h9 := Own.apd2 (Own.alloc O2.out _) HA.out N0.out
          exact ⟨k + 1, A2, c2, by omega, by go_num, rfl, own_conv HA.out.own (Nat.le_refl _) rfl (by rw [HS.out]; simp), h9.1, h9.2, (B0.out.alloc _).apd HA.out (fun p hp => by have := Own.fromLo O1.out p hp; omega), HA.out.ext (HX.out.trans (Ext.alloc _ _)) (fun p hp => by have := Own.fromLo O1.out p hp; omega)⟩
        case measure => simp [intOf]; omega
      · have ek : k = n := by omega
        subst ek
        replace O1 : Hid (OwnI 3 wr (w.heap.size + 1) A1 k c1 (colF d.1 j)) := by have := O1.out; rwa [List.take_of_length_le (by rw [colF_len, hn.out]; exact Nat.le_refl _)] at this
        have cB := B0.out.cell
        go_wp2
        clear cB
        go_loopw [8, 37] (fun o i wr => ∃ (k2 : Nat) (A2 : Option Addr) (c2 : Nat), k2 ≤ n' ∧ i = .int .i64 k2 ∧ o = .slice A2 k2 c2 ∧ OwnI 3 wr (w.heap.size + 1) A2 k2 c2 ((colF d.2 j).take k2) ∧ OwnI 3 wr (w.heap.size + 1) A1 k c1 (colF d.1 j) ∧ Apart A2 A1 ∧ Ext w wr) (fun _ i _ => n' - (intOf i).toNat)
        case atStart => exact ⟨0, _, _, Nat.zero_le _, rfl, rfl, O2.out, O1.out, N0.out.symm, HX.out⟩
        case round =>
          obtain ⟨k2, A2, c2, hk2, rfl, rfl, hown, hown2, hap, hx⟩ := hrel
          clear O1 O2 N0 B0 HX
          have O1 := hide hown2
          have O2 := hide hown
          have N0 := hide hap
          have HX := hide hx
          have q1 := hown.capn; have q2 := hown.capm
          clear hown hown2 hap hx
          by_cases hlt2 : k2 < n'
          · obtain ⟨x, hxk⟩ : ∃ x, Hid (d.2[k2]? = some x) := ⟨_, List.getElem?_eq_getElem (by rw [hn'.out]; exact hlt2)⟩
            obtain ⟨hjx, hx9⟩ := HR2.out x (List.mem_of_getElem? hxk.out)
            obtain ⟨b, off, Ak, ck, rfl, hb, hck, hrk⟩ := H2.out.row HX.out (Nat.le_refl _) hxk.out
            obtain ⟨b2, off2, rfl, hb2, hc⟩ := hrk.sl.cells (by omega)
            have hcj := hc j hjx
            have HS := hide (colF_succ (j := j) hxk.out)
            have hz := hrk.1
            clear hc hrk
            generalize x.getD j 0 = y at *
            generalize x.length = m at *
            have hsz := hide HX.out.size
            go_wp2_with (at_builtin; refine wpList_append_sl rfl (.tmp 41) (.tmp 46) rfl elem_int rfl rfl (Own.alloc O2.out _) (Sl.one wr (.int .i64 y) 3) (one_int y) ?c1 ?c2 ?c3 ?_)
            case c1 => omega
            case c2 => omega
            case c3 => have := hsz.out; simp; omega
            intro A3 c3 w3 hap
            have HA := hide hap
            clear hap
            go_wp2
            go_roundw
            case rel =>
              have h9 := Own.apd2 (Own.alloc O1.out _) HA.out N0.out
              exact ⟨k2 + 1, A3, c3, by omega, by go_num, rfl, own_conv HA.out.own (Nat.le_refl _) rfl (by rw [HS.out]; simp), h9.1, h9.2, HA.out.ext (HX.out.trans (Ext.alloc _ _)) (fun p hp => by have := Own.fromLo O2.out p hp; omega)⟩
            case measure => simp [intOf]; omega
          · have ek2 : k2 = n' := by omega
            subst ek2
            replace O2 : Hid (OwnI 3 wr (w.heap.size + 1) A2 k2 c2 (colF d.2 j)) := by have := O2.out; rwa [List.take_of_length_le (by rw [colF_len, hn'.out]; exact Nat.le_refl _)] at this
            go_wp2
            go_ret3
            rw [hf.out]
            obtain ⟨l0, h0, l1, h1, f0, f1, hd⟩ := two_own (O1.out.lower (Nat.le_succ _)) (O2.out.lower (Nat.le_succ _)) N0.out.symm HX.out.size
            refine ⟨.slice A1 k c1, .slice A2 k2 c2, l0, h0, l1, h1, rfl, ⟨A1, c1, by rw [colF_len, hn.out], by rw [colF_len, hn.out]; exact f0⟩, ?_, ⟨A2, c2, by rw [colF_len, hn'.out], by rw [colF_len, hn'.out]; exact f1⟩, ?_, hd, HX.out⟩
            · show (colF d.1 j).length ≤ _; rw [colF_len, hn.out]; omega
            · show (colF d.2 j).length ≤ _; rw [colF_len, hn'.out]; omega
end Go.Proofs.YtnokilofcdbjhaaGreatDoor

/- Marks copied; marks that are valid. -/
namespace Go.Proofs.YtnokilofcdbjhaaGreatDoor
open Go.RowKit Go.Sort
set_option linter.unusedVariables false

def noMarks : Value := .agg #[.slice none 0 0, .slice none 0 0]

set_option maxRecDepth 100000 in
set_option maxHeartbeats 2000000 in
theorem s.mkIf_any (w : World) (v : Value) (d : MD) (h : kM.rd w v d) (hok : kM.ok d) :
    Calls Tryz.prog 41 #[v] w fun e w' => ∃ v', e = .returned (.tuple #[v', .bool (marksB d)]) ∧ (marksB d = true → v' = v) ∧ (marksB d = false → v' = noMarks) ∧ Ext w w' := by
  obtain ⟨A, c, A', c', rfl, h1, h2⟩ := kM.lr h
  have hok : kdM.wt d ≤ 1048576 := hok
  have H1 := hide h1
  have H2 := hide h2
  clear h h1 h2
  obtain ⟨n, hn⟩ : ∃ n, Hid (d.1.length = n) := ⟨_, rfl⟩
  obtain ⟨n', hn'⟩ : ∃ n', Hid (d.2.length = n') := ⟨_, rfl⟩
  rw [hn.out, hn'.out]
  obtain ⟨W0, hW0⟩ : ∃ W0, Hid (W0 = (w.alloc (.cells #[.slice A n c, .slice A' n' c'] 25)).alloc (.cells #[.slice none 0 0, .slice none 0 0] 25)) := ⟨_, rfl⟩
  have X0 : Hid (Ext w W0) := by rw [hW0.out]; exact (Ext.alloc w _).trans (Ext.alloc _ _)
  have B0 : Hid (Blk W0 w.heap.size #[.slice A n c, .slice A' n' c'] 25) := by rw [hW0.out]; exact (Blk.new rfl _ _).alloc _
  have B1 : Hid (Blk W0 (w.heap.size + 1) #[.slice none 0 0, .slice none 0 0] 25) := by rw [hW0.out]; exact Blk.new (by simp) _ _
  go_enter Tryz.func41, Tryz.ntmps41
  go_wp2_with fail
  rw [← hW0.out]
  have hc := s.mkAll_any A A' c c' w.heap.size d W0 (H1.out.ext X0.out (Nat.le_refl _)) (H2.out.ext X0.out (Nat.le_refl _)) X0.out.size hok
  rw [hn.out, hn'.out] at hc
  refine hc.mono ?_
  rintro e w1 ⟨rfl, hx⟩
  have X1 := hide (X0.out.trans hx)
  replace B0 := hide (B0.out.ext hx)
  replace B1 := hide (B1.out.ext hx)
  clear hx hc hW0
  have c0_ := B0.out.cell; have c1_ := B1.out.cell; have f1_ := B1.out.free
  cases hm : marksB d
  · have HM := hide hm
    clear hm
    go_wp2
    refine bodyPost_ret (v := .tuple #[noMarks, .bool false]) (by simp [results, Tryz.results41, go_sem, c1_, noMarks]) rfl ?_
    exact ⟨noMarks, by rw [HM.out], fun h => (by rw [HM.out] at h; cases h), fun _ => rfl, Below.setCell (Below.setCell X1.out (by simp) _) (by simp) _⟩
  · have HM := hide hm
    clear hm
    go_wp2
    refine bodyPost_ret (v := .tuple #[.agg #[.slice A n c, .slice A' n' c'], .bool true]) (by simp [results, Tryz.results41, go_sem, c1_]) rfl ?_
    exact ⟨_, by rw [HM.out], fun _ => rfl, fun h => (by rw [HM.out] at h; cases h), Below.setCell (Below.setCell X1.out (by simp) _) (by simp) _⟩

set_option maxRecDepth 100000 in
set_option maxHeartbeats 2000000 in
theorem i.asMarks_any (w : World) (v : Value) (d : MD) (h : kM.rd w v d) (hok : kM.ok d) :
    Calls Tryz.prog 39 #[v] w fun e w' => ∃ v', e = .returned (.tuple #[v', .bool (marksB d)]) ∧ (marksB d = true → v' = v) ∧ (marksB d = false → v' = noMarks) ∧ Ext w w' := by
  obtain ⟨A, c, A', c', rfl, h1, h2⟩ := kM.lr h
  have hok : kdM.wt d ≤ 1048576 := hok
  have H1 := hide h1
  have H2 := hide h2
  clear h h1 h2
  obtain ⟨n, hn⟩ : ∃ n, Hid (d.1.length = n) := ⟨_, rfl⟩
  obtain ⟨n', hn'⟩ : ∃ n', Hid (d.2.length = n') := ⟨_, rfl⟩
  rw [hn.out, hn'.out]
  obtain ⟨W0, hW0⟩ : ∃ W0, Hid (W0 = (w.alloc (.cells #[.slice A n c, .slice A' n' c'] 25)).alloc (.cells #[.slice none 0 0, .slice none 0 0] 25)) := ⟨_, rfl⟩
  have X0 : Hid (Ext w W0) := by rw [hW0.out]; exact (Ext.alloc w _).trans (Ext.alloc _ _)
  have B0 : Hid (Blk W0 w.heap.size #[.slice A n c, .slice A' n' c'] 25) := by rw [hW0.out]; exact (Blk.new rfl _ _).alloc _
  have B1 : Hid (Blk W0 (w.heap.size + 1) #[.slice none 0 0, .slice none 0 0] 25) := by rw [hW0.out]; exact Blk.new (by simp) _ _
  go_enter Tryz.func39, Tryz.ntmps39
  go_wp2_with fail
  rw [← hW0.out]
  have hc := i.isMarks_any A A' c c' w.heap.size d W0 (H1.out.ext X0.out (Nat.le_refl _)) (H2.out.ext X0.out (Nat.le_refl _)) X0.out.size hok
  rw [hn.out, hn'.out] at hc
  refine hc.mono ?_
  rintro e w1 ⟨rfl, hx⟩
  have X1 := hide (X0.out.trans hx)
  replace B0 := hide (B0.out.ext hx)
  replace B1 := hide (B1.out.ext hx)
  clear hx hc hW0
  have c0_ := B0.out.cell; have c1_ := B1.out.cell; have f1_ := B1.out.free
  cases hm : marksB d
  · have HM := hide hm
    clear hm
    go_wp2
    refine bodyPost_ret (v := .tuple #[noMarks, .bool false]) (by simp [results, Tryz.results39, go_sem, c1_, noMarks]) rfl ?_
    exact ⟨noMarks, by rw [HM.out], fun h => (by rw [HM.out] at h; cases h), fun _ => rfl, Below.setCell (Below.setCell X1.out (by simp) _) (by simp) _⟩
  · have HM := hide hm
    clear hm
    go_wp2
    refine bodyPost_ret (v := .tuple #[.agg #[.slice A n c, .slice A' n' c'], .bool true]) (by simp [results, Tryz.results39, go_sem, c1_]) rfl ?_
    exact ⟨_, by rw [HM.out], fun _ => rfl, fun h => (by rw [HM.out] at h; cases h), Below.setCell (Below.setCell X1.out (by simp) _) (by simp) _⟩

theorem LO.empty_ (w : World) : LO kdL 31 (w.alloc (.cells #[] 31)) (some ⟨w.heap.size, 0, none⟩) 0 [] [w.heap.size] :=
  ⟨[], [], Own.empty w 31 (Nat.zero_le _), rfl, rfl, by simp, rfl, by simp⟩
/-- A row of its own, as an element of a list. -/
theorem own_row {w : World} {lo n c : Nat} {A : Option Addr} {zs : List Int} (h : OwnI 3 w lo A n c zs) : kdL.own w [.slice A n c] zs (A.map (·.block)).toList := by
  have hl := h.len
  subst hl
  exact ⟨A, c, rfl, h.lo_⟩

set_option maxRecDepth 100000 in
set_option maxHeartbeats 2000000 in
theorem i.copyLists_any (A : Option Addr) (c B : Nat) (xs : List (List Int)) (w : World) (h : LR kdL w B A c xs) (hB : B ≤ w.heap.size) (hwt : kdLL.wt xs ≤ 1048576) :
    Calls Tryz.prog 66 #[.slice A xs.length c] w fun e w' => ∃ A' c' fp, e = .returned (.slice A' xs.length c') ∧ LO kdL 31 w' A' c' xs fp ∧ (∀ i ∈ fp, w.heap.size ≤ i) ∧ Ext w w' := by
  have H := hide h
  have hc1 := h.1; have hc2 := h.2.1
  have hlen := wtL_len kdL xs
  have hn : xs.length ≤ 1048576 := by have : kdLL.wt xs = wtL kdL xs := rfl; omega
  have HR : Hid (∀ x ∈ xs, x.length ≤ 1048576) := fun x hx => by
    obtain ⟨k, hk⟩ := List.getElem?_of_mem hx
    have h5 := wtL_at kdL xs k x hk
    have h6 : kdL.wt x = x.length := wtL_int x
    have : kdLL.wt xs = wtL kdL xs := rfl
    omega
  clear h hlen hwt
  obtain ⟨n, hn'⟩ : ∃ n, Hid (xs.length = n) := ⟨_, rfl⟩
  rw [hn'.out] at hn hc1 ⊢
  go_enter Tryz.func66, Tryz.ntmps66
  go_wp2
  go_loopw [3, 9] (fun o i wr => ∃ (k : Nat) (A' : Option Addr) (c' : Nat) (fp : List Nat), k ≤ n ∧ i = .int .i64 k ∧ o = .slice A' k c' ∧ LO kdL 31 wr A' c' (xs.take k) fp ∧ (∀ i ∈ fp, w.heap.size ≤ i) ∧ Ext w wr) (fun _ i _ => n - (intOf i).toNat)
  case atStart => exact ⟨0, _, _, _, Nat.zero_le _, rfl, rfl, LO.empty_ w, fun i hi => by simp at hi; omega, Ext.alloc w _⟩
  case round =>
    obtain ⟨k, A', c', fp, hk, rfl, rfl, hown, hfp, hx⟩ := hrel
    have HO := hide hown
    have HF := hide hfp
    have HX := hide hx
    clear hown hx hfp
    by_cases hlt : k < n
    · obtain ⟨x, hxk⟩ : ∃ x, Hid (xs[k]? = some x) := ⟨_, List.getElem?_eq_getElem (by rw [hn'.out]; exact hlt)⟩
      have hx9 := HR.out x (List.mem_of_getElem? hxk.out)
      obtain ⟨b, off, Ak, ck, rfl, hb, hck, hrk⟩ := H.out.row HX.out hB hxk.out
      have hq := i.copyInts_any Ak x.length ck B x wr hrk.sl (by have := HX.out.size; omega) hx9
      have HQ := hide hq
      have hz := hrk.1
      clear hq hrk
      have HK : Hid (xs.take (k + 1) = xs.take k ++ [x]) := by
        obtain ⟨hk', e⟩ := List.getElem?_eq_some_iff.1 hxk.out
        show _ = _
        rw [List.take_succ_eq_append_getElem hk', e]
      have HL : Hid ((xs.take k).length = k) := by show _ = _; rw [List.length_take, hn'.out]; omega
      obtain ⟨m, hm⟩ : ∃ m, Hid (x.length = m) := ⟨_, rfl⟩
      rw [hm.out] at hx9 hck hz HQ
      go_wp2_with fail
      refine HQ.out.mono ?_
      rintro e w1 ⟨A1, c1, rfl, o1, x1⟩
      have LO1 := hide ((HO.out.ext x1).ext (Ext.alloc w1 (.cells #[.slice A1 m c1] 31)))
      have KO1 := hide (kdL.own_ext (own_row o1) (Ext.alloc w1 (.cells #[.slice A1 m c1] 31)))
      have FL := hide (OwnI.fpLo o1)
      have X1 := hide ((HX.out.trans x1).trans (Ext.alloc w1 (.cells #[.slice A1 m c1] 31)))
      have LT := hide HO.out.lt
      have SZ := hide HX.out.size
      clear o1 x1 HQ HO
      go_wp2_with (at_builtin; refine wpList_append_LO (K := kdL) rfl (.tmp 13) (.tmp 16) rfl elemN_row (by decide) HL.out.symm rfl rfl LO1.out KO1.out ?d1 ?d2 ?d3 ?d4 ?_)
      case d1 => intro i hi hm; have := FL.out i hi; have := LT.out i hm; omega
      case d2 =>
        intro j u hu
        cases j with
        | zero => simp at hu; subst hu; simp [World.cell?_alloc_at]
        | succ j => simp at hu
      case d3 => omega
      case d4 => omega
      intro A2 c2 w2 fp2 hap
      have HA := hide hap
      clear hap
      go_wp2
      go_roundw
      case rel =>
        refine ⟨k + 1, A2, c2, fp2, by omega, by go_num, rfl, by rw [HK.out]; exact HA.out.own, fun i hi => ?_, X1.out.tchF HA.out.tch HF.out⟩
        have h4 := SZ.out
        have h5 := X1.out.size
        rcases HA.out.sub i hi with h | h | h
        · exact HF.out i h
        · have := FL.out i h; omega
        · rw [h]; exact h5
      case measure => simp [intOf]; omega
    · go_wp2
      go_ret
      have ek : k = n := by omega
      subst ek
      exact ⟨A', c', fp, rfl, by have := HO.out; rwa [List.take_of_length_le (by rw [hn'.out]; exact Nat.le_refl _)] at this, HF.out, HX.out⟩

theorem kM.mk {w : World} {A A' : Option Addr} {c c' lo hi n n' : Nat} {d : MD} {fp fp' : List Nat} (h : LO kdL 31 w A c d.1 fp) (h' : LO kdL 31 w A' c' d.2 fp') (hn : n = d.1.length) (hn' : n' = d.2.length) (hf : ∀ i ∈ fp, lo ≤ i ∧ i < hi) (hf' : ∀ i ∈ fp', lo ≤ i ∧ i < hi) (hd : ∀ i ∈ fp, i ∉ fp') : kM.fr w lo hi (.agg #[.slice A n c, .slice A' n' c']) d := by
  subst hn hn'
  refine ⟨[.slice A d.1.length c, .slice A' d.2.length c'], fp ++ fp', rfl, ⟨[.slice A d.1.length c], [.slice A' d.2.length c'], fp, fp', rfl, ⟨A, c, rfl, h⟩, ⟨A', c', rfl, h'⟩, rfl, ?_⟩, fun i hi => ?_⟩
  · rw [List.nodup_append]
    exact ⟨h.nodup, h'.nodup, fun a ha b hb e => hd a ha (e ▸ hb)⟩
  · rcases List.mem_append.1 hi with h | h
    · exact hf i h
    · exact hf' i h

set_option maxRecDepth 100000 in
set_option maxHeartbeats 2000000 in
theorem i.copyMarks_any (w : World) (v : Value) (d : MD) (h : kM.rd w v d) (hok : kM.ok d) :
    Calls Tryz.prog 38 #[v] w fun e w' => ∃ v', e = .returned v' ∧ kM.fr w' w.heap.size w'.heap.size v' d ∧ Ext w w' := by
  obtain ⟨A, c, A', c', rfl, h1, h2⟩ := kM.lr h
  have hok : kdM.wt d ≤ 1048576 := hok
  have hw1 : kdLL.wt d.1 ≤ 1048576 := by have : kdM.wt d = kdLL.wt d.1 + kdLL.wt d.2 := rfl; omega
  have hw2 : kdLL.wt d.2 ≤ 1048576 := by have : kdM.wt d = kdLL.wt d.1 + kdLL.wt d.2 := rfl; omega
  have H1 := hide h1
  have H2 := hide h2
  clear h h1 h2
  obtain ⟨n, hn⟩ : ∃ n, Hid (d.1.length = n) := ⟨_, rfl⟩
  obtain ⟨n', hn'⟩ : ∃ n', Hid (d.2.length = n') := ⟨_, rfl⟩
  rw [hn.out, hn'.out]
  obtain ⟨W0, hW0⟩ : ∃ W0, Hid (W0 = (w.alloc (.cells #[.slice A n c, .slice A' n' c'] 25)).alloc (.cells #[.slice none 0 0, .slice none 0 0] 25)) := ⟨_, rfl⟩
  have X0 : Hid (Ext w W0) := by rw [hW0.out]; exact (Ext.alloc w _).trans (Ext.alloc _ _)
  have B0 : Hid (Blk W0 w.heap.size #[.slice A n c, .slice A' n' c'] 25) := by rw [hW0.out]; exact (Blk.new rfl _ _).alloc _
  have B1 : Hid (Blk W0 (w.heap.size + 1) #[.slice none 0 0, .slice none 0 0] 25) := by rw [hW0.out]; exact Blk.new (by simp) _ _
  have SZ : Hid (w.heap.size + 1 < W0.heap.size) := B1.out.lt
  have HC1 := i.copyLists_any A c w.heap.size d.1 W0.drew (H1.out.ext (X0.out.trans (Ext.drew _)) (Nat.le_refl _)) X0.out.size hw1
  rw [hn.out] at HC1
  have HC2 : ∀ wx, Ext W0 wx → Calls Tryz.prog 66 #[.slice A' n' c'] wx fun e w' => ∃ A2 c2 fp, e = .returned (.slice A2 n' c2) ∧ LO kdL 31 w' A2 c2 d.2 fp ∧ (∀ i ∈ fp, wx.heap.size ≤ i) ∧ Ext wx w' := by
    intro wx hwx
    have h9 := i.copyLists_any A' c' w.heap.size d.2 wx (H2.out.ext (X0.out.trans hwx) (Nat.le_refl _)) (Nat.le_trans X0.out.size hwx.size) hw2
    rw [hn'.out] at h9
    exact h9
  replace HC1 := hide HC1
  replace HC2 := hide HC2
  go_enter Tryz.func38, Tryz.ntmps38
  go_wp2_with fail
  rw [← hW0.out]
  clear hW0
  have cB := B0.out.cell
  go_region_held3 (fun w' => ∀ i, w'.cell? ⟨w.heap.size, i, none⟩ = #[Value.slice A n c, .slice A' n' c'][i]?) (first | exact (((B0.out.ext Y2.out).far (by simp) _).far (by simp) _).cell | exact (B0.out.ext Y2.out).cell | exact (B0.out.ext Y1.out).cell | exact (B0.out.ext (Ext.drew W0)).cell)
    (first | (go_at_call 66; refine (HC2.out w2 Y1.out).mono ?_; rintro e w3 ⟨A2, c2, fp2, rfl, o2, f2, x2⟩; have Y2 := hide (Y1.out.trans x2); have c1_ := (B1.out.ext Y2.out).cell; have f1_ := (B1.out.ext Y2.out).free) | (go_at_call 66; refine HC1.out.mono ?_; rintro e w2 ⟨A1, c1, fp1, rfl, o1, f1, x1⟩; have Y1 := hide ((Ext.drew W0).trans x1)))
  go_wp2
  refine bodyPost_ret (v := .agg #[.slice A1 n c1, .slice A2 n' c2]) (by simp [results, Tryz.results38, go_sem, c1_]) rfl ?_
  have hk : ∀ i, w.heap.size + 1 < i → ((w3.setCell ⟨w.heap.size + 1, 0, none⟩ (.slice A1 n c1)).setCell ⟨w.heap.size + 1, 1, none⟩ (.slice A2 n' c2)).heap[i]? = w3.heap[i]? := by
    intro i hi
    rw [Below.heap_setCell _ _ _ _ (by simp; omega), Below.heap_setCell _ _ _ _ (by simp; omega)]
  have hf1 : ∀ i ∈ fp1, w.heap.size + 1 < i ∧ i < w2.heap.size := fun i hi => by
    have h1 : W0.heap.size ≤ i := f1 i hi
    have := SZ.out; have := o1.lt i hi; omega
  have hf2 : ∀ i ∈ fp2, w.heap.size + 1 < i ∧ w2.heap.size ≤ i ∧ i < w3.heap.size := fun i hi => by
    have h1 := f2 i hi
    have := SZ.out; have := Y1.out.size; have := o2.lt i hi; omega
  refine ⟨_, rfl, kM.mk ((o1.ext x2).keep (fun i hi => hk i (hf1 i hi).1)) (o2.keep (fun i hi => hk i (hf2 i hi).1)) hn.out.symm hn'.out.symm (fun i hi => ?_) (fun i hi => ?_) (fun i hi hi' => ?_), Below.setCell (Below.setCell (X0.out.trans Y2.out) (by simp) _) (by simp) _⟩
  · have := hf1 i hi; have := x2.size; simp; omega
  · have := hf2 i hi; simp; omega
  · have := hf1 i hi; have := hf2 i hi'; omega

theorem step_append_LO {P : Program} {t e : TypeId} {bytes : Nat} {z : Value} {α : Type} {K : Kd α} {w : World} {A : Option Addr} {c : Nat} {xs : List α} {fp : List Nat} {ops : Array Oper} {o : Oper} {a : Act} {Q : Exit → Act → World → Prop} {KK : Act → World → Prop} {G : Prop} (hgd : o.guard = none) (s y : Operand)
    (hop : o.op = .call { callee := .builtin .append, args := #[s, y], argTypes := #[t, t] }) (E : ElemN P t e K.size bytes z) (hs0 : 0 < K.size)
    {gl d n : Nat} (hn : n = xs.length) (hs' : a.eval s = .slice A n c) (hx' : a.eval y = .slice (some ⟨gl, 0, none⟩) 1 d) (h : LO K e w A c xs fp) {cs : List Value} {x : α} {f : List Nat} (ho : K.own w cs x f) (hd : ∀ i ∈ f, i ∉ fp)
    (hsrc : ∀ j u, cs[j]? = some u → w.cell? ⟨gl, 0 + j, none⟩ = some u) (hb : (n + 1) * bytes ≤ 140737488355328) (hm : n + 1 ≤ 4611686018427387904)
    (hK : ∀ A' c' w' fp', ApL K e w fp f w' A' c' (xs ++ [x]) fp' → KK (a.put o.dst (.slice A' (n + 1) c')) w') :
    if Region.wanted o (yielded ops a.tmps) = true then Oper.wp P o a w KK Q else G := by
  have hw : Region.wanted o (yielded ops a.tmps) = true := by simp [Region.wanted, hgd]
  rw [if_pos hw]
  exact wp_append_LO s y hop E hs0 hn hs' hx' h ho hd hsrc hb hm hK
end Go.Proofs.YtnokilofcdbjhaaGreatDoor

/- The reference's copy of marks. -/
namespace Go.Proofs.YtnokilofcdbjhaaGreatDoor
open Go.RowKit Go.Sort
set_option linter.unusedVariables false

theorem row_src (w : World) (u : Value) (t : TypeId) : ∀ j v, [u][j]? = some v → (w.alloc (.cells #[u] t)).cell? ⟨w.heap.size, 0 + j, none⟩ = some v := by
  intro j v h
  cases j with
  | zero => simp at h; subst h; simp [World.cell?_alloc_at]
  | succ j => simp at h

set_option maxRecDepth 100000 in
set_option maxHeartbeats 4000000 in
theorem s.mkOwn_any (w : World) (v : Value) (d : MD) (h : kM.rd w v d) (hok : kM.ok d) :
    Calls Tryz.prog 40 #[v] w fun e w' => ∃ v', e = .returned v' ∧ kM.fr w' w.heap.size w'.heap.size v' d ∧ Ext w w' := by
  obtain ⟨A, c, A', c', rfl, h1, h2⟩ := kM.lr h
  have hok : kdM.wt d ≤ 1048576 := hok
  have hw1 : kdLL.wt d.1 ≤ 1048576 := by have : kdM.wt d = kdLL.wt d.1 + kdLL.wt d.2 := rfl; omega
  have hw2 : kdLL.wt d.2 ≤ 1048576 := by have : kdM.wt d = kdLL.wt d.1 + kdLL.wt d.2 := rfl; omega
  have hwx : ∀ (xs : List (List Int)), kdLL.wt xs ≤ 1048576 → xs.length ≤ 1048576 ∧ ∀ x ∈ xs, x.length ≤ 1048576 := fun xs hw => by
    have h9 : kdLL.wt xs = wtL kdL xs := rfl
    have hlen := wtL_len kdL xs
    refine ⟨by omega, fun x hx => ?_⟩
    obtain ⟨k, hk⟩ := List.getElem?_of_mem hx
    have h5 := wtL_at kdL xs k x hk
    have h6 : kdL.wt x = x.length := wtL_int x
    omega
  have l1 := (hwx _ hw1).1
  have l2 := (hwx _ hw2).1
  have HR1 := hide (hwx _ hw1).2
  have HR2 := hide (hwx _ hw2).2
  have H1 := hide h1
  have H2 := hide h2
  have a1 := h1.1; have a2 := h1.2.1; have a3 := h2.1; have a4 := h2.2.1
  clear h h1 h2 hwx hw1 hw2 hok
  obtain ⟨n, hn⟩ : ∃ n, Hid (d.1.length = n) := ⟨_, rfl⟩
  obtain ⟨n', hn'⟩ : ∃ n', Hid (d.2.length = n') := ⟨_, rfl⟩
  rw [hn.out, hn'.out]
  rw [hn.out] at a1 l1
  rw [hn'.out] at a3 l2
  obtain ⟨W0, hW0⟩ : ∃ W0, Hid (W0 = ((w.alloc (.cells #[.slice A n c, .slice A' n' c'] 25)).alloc (.cells #[.slice none 0 0, .slice none 0 0] 25)).alloc (.cells #[.slice none 0 0, .slice none 0 0] 25)) := ⟨_, rfl⟩
  have X0 : Hid (Ext w W0) := by rw [hW0.out]; exact ((Ext.alloc w _).trans (Ext.alloc _ _)).trans (Ext.alloc _ _)
  have B0 : Hid (Blk W0 w.heap.size #[.slice A n c, .slice A' n' c'] 25) := by rw [hW0.out]; exact ((Blk.new rfl _ _).alloc _).alloc _
  have B1 : Hid (Blk W0 (w.heap.size + 1) #[.slice none 0 0, .slice none 0 0] 25) := by rw [hW0.out]; exact (Blk.new (by simp) _ _).alloc _
  have B2 : Hid (Blk W0 (w.heap.size + 1 + 1) #[.slice none 0 0, .slice none 0 0] 25) := by rw [hW0.out]; exact Blk.new (by simp) _ _
  have cB : ∀ i, (((w.alloc (.cells #[.slice A n c, .slice A' n' c'] 25)).alloc (.cells #[.slice none 0 0, .slice none 0 0] 25)).alloc (.cells #[.slice none 0 0, .slice none 0 0] 25)).cell? ⟨w.heap.size, i, none⟩ = #[Value.slice A n c, .slice A' n' c'][i]? := by rw [← hW0.out]; exact B0.out.cell
  go_enter Tryz.func40, Tryz.ntmps40
  go_wp2
  rw [← hW0.out]
  clear cB hW0
  go_loopw [12] (fun i wr => ∃ (k : Nat) (A1 : Option Addr) (c1 : Nat) (fp : List Nat), k ≤ n ∧ i = .int .i64 k ∧ Blk wr (w.heap.size + 1 + 1) #[.slice A1 k c1, .slice none 0 0] 25 ∧ LO kdL 31 wr A1 c1 (d.1.take k) fp ∧ (∀ i ∈ fp, w.heap.size + 1 + 1 < i) ∧ Blk wr w.heap.size #[.slice A n c, .slice A' n' c'] 25 ∧ Blk wr (w.heap.size + 1) #[.slice none 0 0, .slice none 0 0] 25 ∧ Ext w wr) (fun i _ => n - (intOf i).toNat)
  case atStart => exact ⟨0, none, 0, [], Nat.zero_le _, rfl, B2.out, LO.none_, by simp, B0.out, B1.out, X0.out⟩
  case round =>
    obtain ⟨k, A1, c1, fp, hk, rfl, hb2, hown, hfp, hb0, hb1, hx⟩ := hrel
    clear B0 B1 B2 X0
    have B0 := hide hb0
    have B1 := hide hb1
    have B2 := hide hb2
    have HO := hide hown
    have HF := hide hfp
    have HX := hide hx
    clear hb0 hb1 hb2 hown hfp hx
    by_cases hlt : k < n
    · obtain ⟨x, hxk⟩ : ∃ x, Hid (d.1[k]? = some x) := ⟨_, List.getElem?_eq_getElem (by rw [hn.out]; exact hlt)⟩
      have hx9 := HR1.out x (List.mem_of_getElem? hxk.out)
      obtain ⟨b, off, Ak, ck, rfl, hb, hck, hrk⟩ := H1.out.row HX.out (Nat.le_refl _) hxk.out
      have hq := s.l1Own_any Ak x.length ck w.heap.size x wr.drew hrk.sl (by exact HX.out.size) hx9
      have HQ := hide hq
      have hz := hrk.1
      clear hq hrk
      have HK : Hid (d.1.take (k + 1) = d.1.take k ++ [x]) := by
        obtain ⟨hk', e⟩ := List.getElem?_eq_some_iff.1 hxk.out
        show _ = _
        rw [List.take_succ_eq_append_getElem hk', e]
      have HL : Hid ((d.1.take k).length = k) := by show _ = _; rw [List.length_take, hn.out]; omega
      have LT := hide HO.out.lt
      obtain ⟨m, hm⟩ : ∃ m, Hid (x.length = m) := ⟨_, rfl⟩
      rw [hm.out] at hx9 hck hz HQ
      have q2 := B2.out.cell
      have b1 : (k + 1) * 24 ≤ 140737488355328 := by omega
      have b2 : k + 1 ≤ 4611686018427387904 := by omega
      go_wp2
      go_region_law (first
        | (go_simp; go_at_call 67; refine HQ.out.mono ?_; rintro e w1 ⟨A2, c2, rfl, o1, x1⟩; have Y1 := hide ((Ext.drew wr).trans x1); have LO1 := hide ((HO.out.ext Y1.out).ext (Ext.alloc w1 (.cells #[.slice A2 m c2] 31))); have KO1 := hide (kdL.own_ext (own_row o1) (Ext.alloc w1 (.cells #[.slice A2 m c2] 31))); have FL := hide (OwnI.fpLo o1); have B2w := hide (B2.out.ext Y1.out); have B2a := hide (B2w.out.alloc (.cells #[.slice A2 m c2] 31)); have cw := B2w.out.cell; have ca := B2a.out.cell; have D1 : Hid (∀ i ∈ (A2.map (·.block)).toList, i ∉ fp) := (fun i hi hm => by have h8 : wr.heap.size ≤ i := FL.out i hi; have h9 := LT.out i hm; omega); have D2 := hide (row_src w1 (.slice A2 m c2) 31); have Y2 := hide (Y1.out.trans (Ext.alloc w1 (.cells #[.slice A2 m c2] 31))); clear o1 x1)
        | (refine step_append_LO (K := kdL) (by rfl) (.tmp 17) (.tmp 20) (by rfl) elemN_row (by decide) HL.out.symm (by rfl) (by rfl) LO1.out KO1.out D1.out D2.out b1 b2 ?_; intro A3 c3 w3 fp3 hap; have HA := hide hap; have B2' := hide (B2a.out.tchF HA.out.tch (fun h => by have := HF.out _ h; omega)); have c3_ := B2'.out.cell; have f3_ := B2'.out.free; clear hap))
      all_goals
        go_wp2
        go_roundw
        case rel =>
          have z1 := B2.out.lt
          have z2 := Y2.out.size
          have nf : ∀ g, g ≤ w.heap.size + 1 + 1 → g ∉ fp := fun g hg h => by have := HF.out g h; omega
          have nf3 : ∀ i ∈ fp3, w.heap.size + 1 + 1 < i := fun i hi => by
            rcases HA.out.sub i hi with h | h | h
            · exact HF.out i h
            · have h8 : wr.heap.size ≤ i := FL.out i h
              omega
            · rw [h]; omega
          exact ⟨k + 1, A3, c3, fp3, by omega, by go_num, B2'.out.set 0 _, by rw [HK.out]; exact HA.out.own.keep (fun i hi => Below.heap_setCell _ _ _ _ (by have := nf3 i hi; simp; omega)), nf3, (((B0.out.ext Y2.out).tchF HA.out.tch (nf _ (by omega))).far (by simp; omega) _), (((B1.out.ext Y2.out).tchF HA.out.tch (nf _ (by omega))).far (by simp) _), Below.setCell ((HX.out.trans Y2.out).tchF HA.out.tch (fun i hi => by have := HF.out i hi; omega)) (by simp <;> omega) _⟩
        case measure => simp [intOf]; omega
    · have ek : n = k := by omega
      subst ek
      replace HO : Hid (LO kdL 31 wr A1 c1 d.1 fp) := by have := HO.out; rwa [List.take_of_length_le (by rw [hn.out]; exact Nat.le_refl _)] at this
      obtain ⟨Af, cf, ff, B2f, HOf, HFf⟩ : ∃ Af cf ff, Hid (Blk wr (w.heap.size + 1 + 1) #[.slice Af n cf, .slice none 0 0] 25) ∧ Hid (LO kdL 31 wr Af cf d.1 ff) ∧ Hid (∀ i ∈ ff, w.heap.size + 1 + 1 < i) := ⟨A1, c1, fp, B2, HO, HF⟩
      clear HO HF B2 A1 c1 fp
      have B2 := B2f
      clear B2f
      have cB := B0.out.cell
      go_wp2
      clear cB
      go_loopw [27] (fun i wr => ∃ (k : Nat) (A1 : Option Addr) (c1 : Nat) (fp : List Nat), k ≤ n' ∧ i = .int .i64 k ∧ Blk wr (w.heap.size + 1 + 1) #[.slice Af n cf, .slice A1 k c1] 25 ∧ LO kdL 31 wr A1 c1 (d.2.take k) fp ∧ (∀ i ∈ fp, w.heap.size + 1 + 1 < i ∧ i ∉ ff) ∧ Blk wr w.heap.size #[.slice A n c, .slice A' n' c'] 25 ∧ Blk wr (w.heap.size + 1) #[.slice none 0 0, .slice none 0 0] 25 ∧ Ext w wr ∧ LO kdL 31 wr Af cf d.1 ff) (fun i _ => n' - (intOf i).toNat)
      case atStart => exact ⟨0, none, 0, [], Nat.zero_le _, rfl, B2.out, LO.none_, by simp, B0.out, B1.out, HX.out, HOf.out⟩
      case round =>
        obtain ⟨k, A1, c1, fp, hk, rfl, hb2, hown, hfp, hb0, hb1, hx, hmf⟩ := hrel
        clear B0 B1 B2 HX HOf
        have B0 := hide hb0
        have B1 := hide hb1
        have B2 := hide hb2
        have HO := hide hown
        have HF := hide hfp
        have HX := hide hx
        have HOf := hide hmf
        clear hmf
        clear hb0 hb1 hb2 hown hfp hx
        by_cases hlt : k < n'
        · obtain ⟨x, hxk⟩ : ∃ x, Hid (d.2[k]? = some x) := ⟨_, List.getElem?_eq_getElem (by rw [hn'.out]; exact hlt)⟩
          have hx9 := HR2.out x (List.mem_of_getElem? hxk.out)
          obtain ⟨b, off, Ak, ck, rfl, hb, hck, hrk⟩ := H2.out.row HX.out (Nat.le_refl _) hxk.out
          have hq := s.l1Own_any Ak x.length ck w.heap.size x wr.drew hrk.sl (by exact HX.out.size) hx9
          have HQ := hide hq
          have hz := hrk.1
          clear hq hrk
          have HK : Hid (d.2.take (k + 1) = d.2.take k ++ [x]) := by
            obtain ⟨hk', e⟩ := List.getElem?_eq_some_iff.1 hxk.out
            show _ = _
            rw [List.take_succ_eq_append_getElem hk', e]
          have HL : Hid ((d.2.take k).length = k) := by show _ = _; rw [List.length_take, hn'.out]; omega
          have LT := hide HO.out.lt
          obtain ⟨m, hm⟩ : ∃ m, Hid (x.length = m) := ⟨_, rfl⟩
          rw [hm.out] at hx9 hck hz HQ
          have q2 := B2.out.cell
          have b1 : (k + 1) * 24 ≤ 140737488355328 := by omega
          have b2 : k + 1 ≤ 4611686018427387904 := by omega
          go_wp2
          go_region_law (first
            | (go_simp; go_at_call 67; refine HQ.out.mono ?_; rintro e w1 ⟨A2, c2, rfl, o1, x1⟩; have Y1 := hide ((Ext.drew wr).trans x1); have LO1 := hide ((HO.out.ext Y1.out).ext (Ext.alloc w1 (.cells #[.slice A2 m c2] 31))); have KO1 := hide (kdL.own_ext (own_row o1) (Ext.alloc w1 (.cells #[.slice A2 m c2] 31))); have FL := hide (OwnI.fpLo o1); have B2w := hide (B2.out.ext Y1.out); have B2a := hide (B2w.out.alloc (.cells #[.slice A2 m c2] 31)); have cw := B2w.out.cell; have ca := B2a.out.cell; have D1 : Hid (∀ i ∈ (A2.map (·.block)).toList, i ∉ fp) := (fun i hi hm => by have h8 : wr.heap.size ≤ i := FL.out i hi; have h9 := LT.out i hm; omega); have D2 := hide (row_src w1 (.slice A2 m c2) 31); have Y2 := hide (Y1.out.trans (Ext.alloc w1 (.cells #[.slice A2 m c2] 31))); clear o1 x1)
            | (refine step_append_LO (K := kdL) (by rfl) (.tmp 32) (.tmp 35) (by rfl) elemN_row (by decide) HL.out.symm (by rfl) (by rfl) LO1.out KO1.out D1.out D2.out b1 b2 ?_; intro A3 c3 w3 fp3 hap; have HA := hide hap; have B2' := hide (B2a.out.tchF HA.out.tch (fun h => by have := HF.out _ h; omega)); have c3_ := B2'.out.cell; have f3_ := B2'.out.free; clear hap))
          all_goals
            go_wp2
            go_roundw
            case rel =>
              have z1 := B2.out.lt
              have z2 := Y2.out.size
              have nf : ∀ g, g ≤ w.heap.size + 1 + 1 → g ∉ fp := fun g hg h => by have := HF.out g h; omega
              have nf3 : ∀ i ∈ fp3, w.heap.size + 1 + 1 < i ∧ i ∉ ff := fun i hi => by
                rcases HA.out.sub i hi with h | h | h
                · exact HF.out i h
                · have h8 : wr.heap.size ≤ i := FL.out i h
                  exact ⟨by omega, fun hm => by have := HOf.out.lt i hm; omega⟩
                · rw [h]; exact ⟨by omega, fun hm => by have := HOf.out.lt _ hm; omega⟩
              exact ⟨k + 1, A3, c3, fp3, by omega, by go_num, B2'.out.set 1 _, by rw [HK.out]; exact HA.out.own.keep (fun i hi => Below.heap_setCell _ _ _ _ (by have := nf3 i hi; simp; omega)), nf3, (((B0.out.ext Y2.out).tchF HA.out.tch (nf _ (by omega))).far (by simp; omega) _), (((B1.out.ext Y2.out).tchF HA.out.tch (nf _ (by omega))).far (by simp) _), Below.setCell ((HX.out.trans Y2.out).tchF HA.out.tch (fun i hi => by have := HF.out i hi; omega)) (by simp <;> omega) _, ((HOf.out.ext Y2.out).keep (fun i hi => HA.out.tch.block i (by have := HOf.out.lt i hi; omega) (fun h => (HF.out i h).2 hi))).keep (fun i hi => Below.heap_setCell _ _ _ _ (by have := HFf.out i hi; simp; omega))⟩
            case measure => simp [intOf]; omega
        · have ek : n' = k := by omega
          subst ek
          replace HO : Hid (LO kdL 31 wr A1 c1 d.2 fp) := by have := HO.out; rwa [List.take_of_length_le (by rw [hn'.out]; exact Nat.le_refl _)] at this
          have c2_ := B2.out.cell; have c1_ := B1.out.cell; have f1_ := B1.out.free
          go_wp2
          refine bodyPost_ret (v := .agg #[.slice Af n cf, .slice A1 n' c1]) (by simp [results, Tryz.results40, go_sem, c1_]) rfl ?_
          have hk : ∀ i, w.heap.size + 1 + 1 < i → ((wr.setCell ⟨w.heap.size + 1, 0, none⟩ (.slice Af n cf)).setCell ⟨w.heap.size + 1, 1, none⟩ (.slice A1 n' c1)).heap[i]? = wr.heap[i]? := by
            intro i hi
            rw [Below.heap_setCell _ _ _ _ (by simp; omega), Below.heap_setCell _ _ _ _ (by simp; omega)]
          refine ⟨_, rfl, kM.mk (HOf.out.keep (fun i hi => hk i (HFf.out i hi))) (HO.out.keep (fun i hi => hk i (HF.out i hi).1)) hn.out.symm hn'.out.symm (fun i hi => ?_) (fun i hi => ?_) (fun i hi hi' => (HF.out i hi').2 hi), Below.setCell (Below.setCell HX.out (by simp) _) (by simp) _⟩
          · have := HFf.out i hi; have := HOf.out.lt i hi; simp; omega
          · have := HF.out i hi; have := HO.out.lt i hi; simp; omega
end Go.Proofs.YtnokilofcdbjhaaGreatDoor

/- A mark set. -/
namespace Go.Proofs.YtnokilofcdbjhaaGreatDoor
open Go.RowKit Go.Sort
set_option linter.unusedVariables false

theorem TchF.setCell {fp : List Nat} (w : World) (p : Addr) (v : Value) (hp : p.block ∈ fp) : TchF fp w (w.setCell p v) := by
  have h := Below.setCell (Below.refl 0 w) (Nat.zero_le p.block) v
  exact ⟨h.os, h.tape, h.output, h.size, fun k hk hr => Below.heap_setCell _ _ _ _ (fun e => hr (e ▸ hp))⟩

/-- One number in a list of lists of the call's own: where it lies, and what a store there leaves. -/
theorem LO.spot {w : World} {A : Option Addr} {c : Nat} {xs : List (List Int)} {fp : List Nat} (h : LO kdL 31 w A c xs fp) (k : Nat) (x : List Int) (hx : xs[k]? = some x) (j : Nat) (hj : j < x.length) :
    ∃ g gx cx, A = some ⟨g, 0, none⟩ ∧ w.cell? ⟨g, k, none⟩ = some (.slice (some ⟨gx, 0, none⟩) x.length cx) ∧ x.length ≤ cx ∧ cx ≤ 9223372036854775807 ∧ gx ∈ fp ∧ w.cell? ⟨gx, j, none⟩ = some (.int .i64 (x.getD j 0)) ∧ w.frozen? ⟨gx, j, none⟩ = false ∧
      ∀ z, LO kdL 31 (w.setCell ⟨gx, j, none⟩ (.int .i64 z)) A c (xs.set k (x.set j z)) fp := by
  obtain ⟨g, cs, f, hat⟩ := h.at_ k x hx
  obtain ⟨Ax, cx, hcs, hlo⟩ := hat.own
  have hcs : cs = [.slice Ax x.length cx] := hcs
  subst hcs
  obtain ⟨ho, hf⟩ := hlo.own
  obtain ⟨gx, rfl, _, _, hc⟩ := ho.pos (by omega)
  have hm : gx ∈ f := by rw [hf]; simp
  refine ⟨g, gx, cx, hat.addr, ?_, hc, ho.capm, (hat.sub gx hm).1, ho.cell j hj, ho.free j, fun z => ?_⟩
  · have := hat.cell 0 _ rfl
    simpa [kdL, kdList] using this
  · refine hat.inplace _ _ ?_ (TchF.setCell w _ _ hm)
    have h9 := own_row (ho.set j z)
    rw [hf]
    simpa using h9

theorem kM.open {w : World} {lo hi : Nat} {v : Value} {d : MD} (h : kM.fr w lo hi v d) : ∃ A c A' c' fp fp', v = .agg #[.slice A d.1.length c, .slice A' d.2.length c'] ∧ LO kdL 31 w A c d.1 fp ∧ LO kdL 31 w A' c' d.2 fp' ∧ (∀ i ∈ fp, lo ≤ i ∧ i < hi) ∧ (∀ i ∈ fp', lo ≤ i ∧ i < hi) ∧ (∀ i ∈ fp, i ∉ fp') := by
  obtain ⟨vs, fp0, rfl, ⟨vs1, vs2, fp, fp', rfl, ⟨A, c, rfl, h1⟩, ⟨A', c', rfl, h2⟩, rfl, hnd⟩, hf⟩ := h
  rw [List.nodup_append] at hnd
  exact ⟨A, c, A', c', fp, fp', rfl, h1, h2, fun i hi => hf i (List.mem_append.2 (.inl hi)), fun i hi => hf i (List.mem_append.2 (.inr hi)), fun i hi hi' => hnd.2.2 i hi i hi' rfl⟩

/-- One grade, or one component mark. -/
def setG (d : MD) (k j : Nat) (z : Int) : MD := (d.1.set k ((d.1.getD k []).set j z), d.2)
def setC (d : MD) (k j : Nat) (z : Int) : MD := (d.1, d.2.set k ((d.2.getD k []).set j z))
theorem wtL_set {α : Type} (K : Kd α) (xs : List α) (k : Nat) (x x' : α) (h : xs[k]? = some x) (hw : K.wt x' = K.wt x) : wtL K (xs.set k x') = wtL K xs := by
  induction xs generalizing k with
  | nil => simp at h
  | cons y t ih =>
    cases k with
    | zero => simp at h; subst h; show 1 + K.wt x' + wtL K t = 1 + K.wt y + wtL K t; omega
    | succ k => simp at h; have := ih k h; show 1 + K.wt y + wtL K (t.set k x') = 1 + K.wt y + wtL K t; omega
theorem wt_row (x : List Int) (j : Nat) (z : Int) : kdL.wt (x.set j z) = kdL.wt x := by
  have h1 : kdL.wt (x.set j z) = (x.set j z).length := wtL_int _
  have h2 : kdL.wt x = x.length := wtL_int _
  rw [h1, h2]; simp
theorem setG_ok {d : MD} {k j : Nat} {z : Int} {x : List Int} (hx : d.1[k]? = some x) (h : kM.ok d) : kM.ok (setG d k j z) := by
  have h1 := wtL_set kdL d.1 k x (x.set j z) hx (wt_row x j z)
  have hg : d.1.getD k [] = x := by rw [List.getD_eq_getElem?_getD, hx]; rfl
  show kdM.wt (setG d k j z) ≤ 1048576
  have h2 : kdM.wt (setG d k j z) = wtL kdL (d.1.set k (x.set j z)) + wtL kdL d.2 := by unfold setG; rw [hg]; rfl
  have h3 : kdM.wt d = wtL kdL d.1 + wtL kdL d.2 := rfl
  have h4 : kdM.wt d ≤ 1048576 := h
  omega
theorem setC_ok {d : MD} {k j : Nat} {z : Int} {x : List Int} (hx : d.2[k]? = some x) (h : kM.ok d) : kM.ok (setC d k j z) := by
  have h1 := wtL_set kdL d.2 k x (x.set j z) hx (wt_row x j z)
  have hg : d.2.getD k [] = x := by rw [List.getD_eq_getElem?_getD, hx]; rfl
  show kdM.wt (setC d k j z) ≤ 1048576
  have h2 : kdM.wt (setC d k j z) = wtL kdL d.1 + wtL kdL (d.2.set k (x.set j z)) := by unfold setC; rw [hg]; rfl
  have h3 : kdM.wt d = wtL kdL d.1 + wtL kdL d.2 := rfl
  have h4 : kdM.wt d ≤ 1048576 := h
  omega
theorem kM.ok_nil : kM.ok ([], []) := Nat.zero_le _
theorem kM.fr_nil (w : World) (lo hi : Nat) : kM.fr w lo hi noMarks ([], []) := kM.mk (A := none) (A' := none) (d := ([], [])) LO.none_ LO.none_ rfl rfl (by simp) (by simp) (by simp)

theorem kM.fr_far {w : World} {lo hi : Nat} {v : Value} {d : MD} (h : kM.fr w lo hi v d) (p : Addr) (hp : p.block < lo) (u : Value) : kM.fr (w.setCell p u) lo hi v d := by
  obtain ⟨vs, fp, rfl, h, hf⟩ := h
  refine ⟨vs, fp, rfl, kdM.own_keep h (fun i hi => Below.heap_setCell _ _ _ _ (fun (e : i = p.block) => ?_)), hf⟩
  have := hf i hi
  omega
theorem kM.fr_mono {w : World} {lo hi lo' hi' : Nat} {v : Value} {d : MD} (h : kM.fr w lo hi v d) (h1 : lo' ≤ lo) (h2 : hi ≤ hi') : kM.fr w lo' hi' v d := by
  obtain ⟨vs, fp, rfl, h, hf⟩ := h
  exact ⟨vs, fp, rfl, h, fun i hi => by have := hf i hi; omega⟩
def ifMarks (d : MD) : MD × Bool := if marksB d then (d, true) else (([], []), false)
def setGradeF (d : MD) (k j z : Int) : MD × Bool := if hasJudge d j && inB 0 ((d.1.length : Int) - 1) k then ifMarks (setG d k.toNat j.toNat z) else (([], []), false)
def setComponentF (d : MD) (k j z : Int) : MD × Bool := if hasJudge d j && inB 0 2 k then ifMarks (setC d k.toNat j.toNat z) else (([], []), false)

theorem kM.spot1 {w : World} {lo hi : Nat} {v : Value} {d : MD} (h : kM.fr w lo hi v d) (k : Nat) (x : List Int) (hx : d.1[k]? = some x) (j : Nat) (hj : j < x.length) :
    ∃ g gx cx c A' c', v = .agg #[.slice (some ⟨g, 0, none⟩) d.1.length c, .slice A' d.2.length c'] ∧ d.1.length ≤ c ∧ c ≤ 9223372036854775807 ∧ w.cell? ⟨g, k, none⟩ = some (.slice (some ⟨gx, 0, none⟩) x.length cx) ∧ x.length ≤ cx ∧ cx ≤ 9223372036854775807 ∧ (lo ≤ gx ∧ gx < hi) ∧ (lo ≤ g ∧ g < hi) ∧ w.cell? ⟨gx, j, none⟩ = some (.int .i64 (x.getD j 0)) ∧ w.frozen? ⟨gx, j, none⟩ = false ∧ gx < w.heap.size ∧ g < w.heap.size ∧
      ∀ z, kM.fr (w.setCell ⟨gx, j, none⟩ (.int .i64 z)) lo hi v (setG d k j z) := by
  obtain ⟨A, c, A', c', fp, fp', rfl, h1, h2, hf, hf', hd⟩ := kM.open h
  obtain ⟨g, gx, cx, rfl, s1, s2, s3, s4, s5, s6, s7⟩ := h1.spot k x hx j hj
  have hg : d.1.getD k [] = x := by rw [List.getD_eq_getElem?_getD, hx]; rfl
  have hgm : g ∈ fp := by obtain ⟨css, fps, _, _, _, _, e, _⟩ := h1; rw [e]; simp
  refine ⟨g, gx, cx, c, A', c', rfl, h1.cap.1, h1.cap.2, s1, s2, s3, hf gx s4, hf g hgm, s5, s6, h1.lt gx s4, h1.lt g hgm, fun z => ?_⟩
  refine kM.mk (d := setG d k j z) (by unfold setG; rw [hg]; exact s7 z) (h2.keep (fun i hi => Below.heap_setCell _ _ _ _ (fun (e : i = gx) => hd gx s4 (e ▸ hi)))) (by simp [setG]) rfl hf hf' hd
theorem kM.spot2 {w : World} {lo hi : Nat} {v : Value} {d : MD} (h : kM.fr w lo hi v d) (k : Nat) (x : List Int) (hx : d.2[k]? = some x) (j : Nat) (hj : j < x.length) :
    ∃ g gx cx c A' c', v = .agg #[.slice A' d.1.length c', .slice (some ⟨g, 0, none⟩) d.2.length c] ∧ d.2.length ≤ c ∧ c ≤ 9223372036854775807 ∧ w.cell? ⟨g, k, none⟩ = some (.slice (some ⟨gx, 0, none⟩) x.length cx) ∧ x.length ≤ cx ∧ cx ≤ 9223372036854775807 ∧ (lo ≤ gx ∧ gx < hi) ∧ (lo ≤ g ∧ g < hi) ∧ w.cell? ⟨gx, j, none⟩ = some (.int .i64 (x.getD j 0)) ∧ w.frozen? ⟨gx, j, none⟩ = false ∧ gx < w.heap.size ∧ g < w.heap.size ∧
      ∀ z, kM.fr (w.setCell ⟨gx, j, none⟩ (.int .i64 z)) lo hi v (setC d k j z) := by
  obtain ⟨A', c', A, c, fp', fp, rfl, h2, h1, hf', hf, hd⟩ := kM.open h
  obtain ⟨g, gx, cx, rfl, s1, s2, s3, s4, s5, s6, s7⟩ := h1.spot k x hx j hj
  have hg : d.2.getD k [] = x := by rw [List.getD_eq_getElem?_getD, hx]; rfl
  have hgm : g ∈ fp := by obtain ⟨css, fps, _, _, _, _, e, _⟩ := h1; rw [e]; simp
  refine ⟨g, gx, cx, c, A', c', rfl, h1.cap.1, h1.cap.2, s1, s2, s3, hf gx s4, hf g hgm, s5, s6, h1.lt gx s4, h1.lt g hgm, fun z => ?_⟩
  refine kM.mk (d := setC d k j z) (h2.keep (fun i hi => Below.heap_setCell _ _ _ _ (fun (e : i = gx) => hd gx (e ▸ hi) s4))) (by unfold setC; rw [hg]; exact s7 z) rfl (by simp [setC]) hf' hf hd
end Go.Proofs.YtnokilofcdbjhaaGreatDoor

/- A row in marks of the call's own, grown. -/
namespace Go.Proofs.YtnokilofcdbjhaaGreatDoor
open Go.RowKit Go.Sort
set_option linter.unusedVariables false

theorem LO.grow {w : World} {A : Option Addr} {c : Nat} {xs : List (List Int)} {fp : List Nat} (h : LO kdL 31 w A c xs fp) (k : Nat) (x : List Int) (hx : xs[k]? = some x) :
    ∃ g Ax cx, A = some ⟨g, 0, none⟩ ∧ g ∈ fp ∧ w.cell? ⟨g, k, none⟩ = some (.slice Ax x.length cx) ∧ w.frozen? ⟨g, k, none⟩ = false ∧ OwnI 3 w 0 Ax x.length cx x ∧ (∀ p, Ax = some p → p.block ∈ fp ∧ p.block ≠ g) ∧
      ∀ w' A2 n2 c2 x2, Apd 3 w 0 Ax w' A2 n2 c2 (x2.map (Value.int .i64)) → w'.cell? ⟨g, k, none⟩ = some (.slice Ax x.length cx) ∧ w'.frozen? ⟨g, k, none⟩ = false ∧ TchF fp w w' ∧
        ∃ fp', LO kdL 31 (w'.setCell ⟨g, k, none⟩ (.slice A2 n2 c2)) A c (xs.set k x2) fp' ∧ ∀ i ∈ fp', i ∈ fp ∨ i = w.heap.size := by
  obtain ⟨g, cs, f, hat⟩ := h.at_ k x hx
  obtain ⟨Ax, cx, hcs, hlo⟩ := hat.own
  have hcs : cs = [.slice Ax x.length cx] := hcs
  subst hcs
  obtain ⟨ho, hf⟩ := hlo.own
  have hc : w.cell? ⟨g, k, none⟩ = some (.slice Ax x.length cx) := by
    have := hat.cell 0 _ rfl
    simpa [kdL, kdList] using this
  have hAx : ∀ p, Ax = some p → p.block ∈ f := fun p hp => by rw [hf, hp]; simp
  refine ⟨g, Ax, cx, hat.addr, hat.mem, hc, hat.free k, ho, fun p hp => hat.sub _ (hAx p hp), fun w' A2 n2 c2 x2 hap => ?_⟩
  have ht : TchF f w w' := TchF.of_grown hap.grew hAx
  have hgf : g ∉ f := fun hm => (hat.sub g hm).2 rfl
  have hb := ht.block g hat.lt hgf
  have hi : OwnI 3 w' 0 A2 n2 c2 x2 := hap.own
  have hko := own_row hi
  obtain ⟨fp', h1, h2⟩ := hat.store w' _ x2 _ hko ht (fun i hi => by
    obtain ⟨p, hp, rfl⟩ := mem_of_opt hi
    rcases hap.where_ with hw | hw
    · left
      rw [hp] at hw
      cases Ax with
      | none => simp at hw
      | some q => simp at hw; rw [hw]; exact hAx q rfl
    · right
      rw [hp] at hw
      simp at hw
      intro hm
      have := h.lt _ hm
      omega)
  rw [one_cells w' g k _ kdL.size rfl] at h1
  refine ⟨(World.cell?_of_block (w := w) hb).trans hc, (World.frozen?_of_block (w := w) hb).trans (hat.free k), ht.more (fun i hi => (hat.sub i hi).1), fp', h1, fun i hi => ?_⟩
  rcases h2 i hi with h3 | h3
  · exact .inl h3
  · obtain ⟨p, hp, rfl⟩ := mem_of_opt h3
    rcases hap.where_ with hw | hw
    · left
      rw [hp] at hw
      cases Ax with
      | none => simp at hw
      | some q => simp at hw; rw [hw]; exact (hat.sub _ (hAx q rfl)).1
    · right
      rw [hp] at hw
      simpa using hw

/-- Lists, each with one number more, as far as k. -/
def addN (xs : List (List Int)) (zs : List Int) : Nat → List (List Int)
  | 0 => xs
  | k + 1 => (addN xs zs k).set k ((addN xs zs k).getD k [] ++ [zs.getD k 0])
theorem addN_len (xs : List (List Int)) (zs : List Int) : ∀ k, (addN xs zs k).length = xs.length
  | 0 => rfl
  | k + 1 => by simp [addN, addN_len xs zs k]
theorem addN_at (xs : List (List Int)) (zs : List Int) : ∀ k j, k ≤ j → (addN xs zs k)[j]? = xs[j]?
  | 0, _, _ => rfl
  | k + 1, j, h => by simp only [addN]; rw [List.getElem?_set_ne (by omega)]; exact addN_at xs zs k j (by omega)
theorem wtL_grow {α : Type} (K : Kd α) (xs : List α) (k : Nat) (x x' : α) (h : xs[k]? = some x) (hw : K.wt x' = K.wt x + 1) : wtL K (xs.set k x') = wtL K xs + 1 := by
  induction xs generalizing k with
  | nil => simp at h
  | cons y t ih =>
    cases k with
    | zero => simp at h; subst h; show 1 + K.wt x' + wtL K t = 1 + K.wt y + wtL K t + 1; omega
    | succ k => simp at h; have := ih k h; show 1 + K.wt y + wtL K (t.set k x') = 1 + K.wt y + wtL K t + 1; omega
theorem addN_wt (xs : List (List Int)) (zs : List Int) : ∀ k, k ≤ xs.length → wtL kdL (addN xs zs k) = wtL kdL xs + k
  | 0, _ => rfl
  | k + 1, hk => by
    have ih := addN_wt xs zs k (by omega)
    have hl := addN_len xs zs k
    have hx : (addN xs zs k)[k]? = some ((addN xs zs k).getD k []) := by rw [List.getD_eq_getElem?_getD, List.getElem?_eq_getElem (by omega)]; rfl
    have h1 := wtL_grow kdL (addN xs zs k) k _ ((addN xs zs k).getD k [] ++ [zs.getD k 0]) hx (by
      have h2 : ∀ y : List Int, kdL.wt y = y.length := fun y => wtL_int y
      rw [h2, h2]; simp)
    show wtL kdL ((addN xs zs k).set k _) = _
    rw [h1, ih]; omega
theorem wtL_small (xs : List (List Int)) (h : ∀ x ∈ xs, x.length ≤ 9) : wtL kdL xs ≤ 10 * xs.length := by
  induction xs with
  | nil => exact Nat.le_refl _
  | cons x t ih =>
    have h1 := ih (fun y hy => h y (List.mem_cons_of_mem _ hy))
    have h2 : kdL.wt x = x.length := wtL_int x
    have h3 := h x (List.mem_cons_self ..)
    show 1 + kdL.wt x + wtL kdL t ≤ 10 * (t.length + 1)
    omega
def addJudgeF (d : MD) (gs cs : List Int) : MD × Bool := if marksB d && decide (gs.length = d.1.length) && decide (cs.length = 3) then ifMarks (addN d.1 gs gs.length, addN d.2 cs cs.length) else (([], []), false)
theorem addJ_ok {d : MD} {gs cs : List Int} (h : marksB d = true) (h1 : gs.length = d.1.length) (h2 : cs.length = 3) : kM.ok (addN d.1 gs gs.length, addN d.2 cs cs.length) := by
  obtain ⟨r1, r2, _, r4, r5, r6⟩ := marksB_ok h
  have e1 := addN_wt d.1 gs gs.length (by omega)
  have e2 := addN_wt d.2 cs cs.length (by omega)
  have s1 := wtL_small d.1 (fun x hx => by have := (r5 x hx).1; omega)
  have s2 := wtL_small d.2 (fun x hx => by have := (r6 x hx).1; omega)
  have e3 : kdM.wt (addN d.1 gs gs.length, addN d.2 cs cs.length) = wtL kdL (addN d.1 gs gs.length) + wtL kdL (addN d.2 cs cs.length) := rfl
  show kdM.wt _ ≤ 1048576
  omega
end Go.Proofs.YtnokilofcdbjhaaGreatDoor

/- Two judges changed over: the plain part; two numbers of a row in marks of the call's own, changed over in place. -/
namespace Go.Proofs.YtnokilofcdbjhaaGreatDoor
open Go.RowKit Go.Sort
set_option linter.unusedVariables false

/-- Lists of which the first k have been changed. -/
def mapN (f : List Int → List Int) (xs : List (List Int)) (k : Nat) : List (List Int) := (xs.map f).take k ++ xs.drop k
section
variable (f : List Int → List Int) (xs : List (List Int)) (k : Nat)
theorem mapN_zero : mapN f xs 0 = xs := by simp [mapN]
theorem mapN_all (h : xs.length ≤ k) : mapN f xs k = xs.map f := by
  unfold mapN
  rw [List.take_of_length_le (by simpa using h), List.drop_eq_nil_of_le h, List.append_nil]
theorem mapN_len : (mapN f xs k).length = xs.length := by simp [mapN]; omega
theorem mapN_at (h : k < xs.length) : (mapN f xs k)[k]? = xs[k]? := by
  have e : ((xs.map f).take k).length = k := by simp; omega
  unfold mapN
  rw [List.getElem?_append_right (by omega), e, Nat.sub_self, List.getElem?_drop, Nat.add_zero]
theorem mapN_set (x : List Int) (hx : xs[k]? = some x) : (mapN f xs k).set k (f x) = mapN f xs (k + 1) := by
  obtain ⟨hk, rfl⟩ := List.getElem?_eq_some_iff.1 hx
  have e : ((xs.map f).take k).length = k := by simp; omega
  unfold mapN
  rw [List.set_append_right _ _ (by omega), e, Nat.sub_self, List.drop_eq_getElem_cons hk, List.set_cons_zero, List.take_succ_eq_append_getElem (by simpa using hk), List.append_assoc]
  simp
end
def swapJ (a b : Nat) (x : List Int) : List Int := (x.set a (x.getD b 0)).set b (x.getD a 0)
theorem swapJ_len (a b : Nat) (x : List Int) : (swapJ a b x).length = x.length := by simp [swapJ]
theorem swapJ_wt (xs : List (List Int)) (a b : Nat) : wtL kdL (xs.map (swapJ a b)) = wtL kdL xs := by
  induction xs with
  | nil => rfl
  | cons x t ih =>
    have h1 : kdL.wt (swapJ a b x) = (swapJ a b x).length := wtL_int _
    have h2 : kdL.wt x = x.length := wtL_int _
    have h3 := swapJ_len a b x
    show 1 + kdL.wt (swapJ a b x) + wtL kdL (t.map (swapJ a b)) = 1 + kdL.wt x + wtL kdL t
    omega
theorem swapJ_ok {d : MD} (a b : Nat) (h : kM.ok d) : kM.ok (d.1.map (swapJ a b), d.2.map (swapJ a b)) := by
  have h1 := swapJ_wt d.1 a b
  have h2 := swapJ_wt d.2 a b
  have h3 : kdM.wt (d.1.map (swapJ a b), d.2.map (swapJ a b)) = wtL kdL (d.1.map (swapJ a b)) + wtL kdL (d.2.map (swapJ a b)) := rfl
  have h4 : kdM.wt d = wtL kdL d.1 + wtL kdL d.2 := rfl
  have h5 : kdM.wt d ≤ 1048576 := h
  show kdM.wt _ ≤ 1048576
  omega
def swapJudgesF (d : MD) (a b : Int) : MD × Bool := if hasJudge d a && hasJudge d b then ((d.1.map (swapJ a.toNat b.toNat), d.2.map (swapJ a.toNat b.toNat)), true) else (([], []), false)

theorem LO.swap {w : World} {A : Option Addr} {c : Nat} {xs : List (List Int)} {fp : List Nat} (h : LO kdL 31 w A c xs fp) (k : Nat) (x : List Int) (hx : xs[k]? = some x) (a b : Nat) (ha : a < x.length) (hb : b < x.length) :
    ∃ g gx cx, A = some ⟨g, 0, none⟩ ∧ g ∈ fp ∧ gx ∈ fp ∧ gx ≠ g ∧ w.cell? ⟨g, k, none⟩ = some (.slice (some ⟨gx, 0, none⟩) x.length cx) ∧ x.length ≤ cx ∧ cx ≤ 9223372036854775807 ∧ w.cell? ⟨gx, a, none⟩ = some (.int .i64 (x.getD a 0)) ∧ w.cell? ⟨gx, b, none⟩ = some (.int .i64 (x.getD b 0)) ∧ (∀ i, w.frozen? ⟨gx, i, none⟩ = false) ∧
      (∀ z u, ∃ t, (w.setCell ⟨gx, a, none⟩ (.int .i64 z)).cell? ⟨gx, b, none⟩ = some (.int .i64 t) ∧ (∀ i, (w.setCell ⟨gx, a, none⟩ (.int .i64 z)).frozen? ⟨gx, i, none⟩ = false) ∧ LO kdL 31 ((w.setCell ⟨gx, a, none⟩ (.int .i64 z)).setCell ⟨gx, b, none⟩ (.int .i64 u)) A c (xs.set k ((x.set a z).set b u)) fp) := by
  obtain ⟨g, cs, f, hat⟩ := h.at_ k x hx
  obtain ⟨Ax, cx, hcs, hlo⟩ := hat.own
  have hcs : cs = [.slice Ax x.length cx] := hcs
  subst hcs
  obtain ⟨ho, hf⟩ := hlo.own
  obtain ⟨gx, rfl, _, _, hc⟩ := ho.pos (by omega)
  have hm : gx ∈ f := by rw [hf]; simp
  refine ⟨g, gx, cx, hat.addr, hat.mem, (hat.sub gx hm).1, (hat.sub gx hm).2, ?_, hc, ho.capm, ho.cell a ha, ho.cell b hb, ho.free, fun z u => ?_⟩
  · have := hat.cell 0 _ rfl
    simpa [kdL, kdList] using this
  · have o2 := ho.set a z
    refine ⟨_, o2.cell b (by simpa using hb), o2.free, ?_⟩
    refine hat.inplace _ _ ?_ ((TchF.setCell w _ _ hm).trans (TchF.setCell _ _ _ hm))
    have h9 := own_row (o2.set b u)
    rw [hf]
    simpa using h9
/-- The cells of a list's own row. -/
theorem LO.heads {w : World} {A : Option Addr} {c : Nat} {xs : List (List Int)} {fp : List Nat} (h : LO kdL 31 w A c xs fp) : ∃ hs, Own 31 w 0 A xs.length c hs ∧ ∀ u ∈ hs, u.oneCell' = true := by
  obtain ⟨css, fps, hr, hl1, hl2, hown, hfp, hnd⟩ := h
  refine ⟨css.flatten, hr, fun u hu => ?_⟩
  obtain ⟨cs, hcs, hu⟩ := List.mem_flatten.1 hu
  obtain ⟨i, hi, rfl⟩ := List.getElem_of_mem hcs
  exact kdL.rd_one (kdL.own_rd (hown i _ _ _ (List.getElem?_eq_getElem hi) (List.getElem?_eq_getElem (by omega)) (List.getElem?_eq_getElem (by omega)))) u hu
theorem elem_row : Elem Tryz.prog 23 31 24 := Elem.mk Tryz.underlying23 info_row rfl
end Go.Proofs.YtnokilofcdbjhaaGreatDoor
