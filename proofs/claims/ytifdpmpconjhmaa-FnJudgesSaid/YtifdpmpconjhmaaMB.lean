/- Valid marks: the two walks. -/
import Derived.Test.YtifdpmpconjhmaaMA
namespace Go.Proofs.Ytifdpmpconjhmaa
open Go.RowKit Go.Sort
set_option linter.unusedVariables false

theorem allG_step {α : Type} {f : α → Bool} {xs : List α} {k : Nat} {x : α} (hx : xs[k]? = some x) (h : (xs.take k).all f = true) (h1 : f x = true) : (xs.take (k + 1)).all f = true := by
  obtain ⟨hk, rfl⟩ := List.getElem?_eq_some_iff.1 hx
  rw [List.take_succ_eq_append_getElem hk, List.all_append, h]; simpa using h1
theorem allG_stop {α : Type} {f : α → Bool} {xs : List α} {k : Nat} {x : α} (hx : xs[k]? = some x) (h1 : f x = false) : xs.all f = false := by
  obtain ⟨hk, rfl⟩ := List.getElem?_eq_some_iff.1 hx
  rw [List.all_eq_false]
  exact ⟨_, List.getElem_mem hk, by simp [h1]⟩
theorem allG_end {α : Type} {f : α → Bool} {xs : List α} {k : Nat} (hk : ¬ k < xs.length) (h : (xs.take k).all f = true) : xs.all f = true := by
  rwa [List.take_of_length_le (by omega)] at h
/-- Row k of a list of rows, in a later world. -/
theorem LR.row {w w' : World} {B c k : Nat} {A : Option Addr} {xs : List (List Int)} {x : List Int} (h : LR kdL w B A c xs) (k' : Ext w w') (hB : B ≤ w.heap.size) (hx : xs[k]? = some x) :
    ∃ b off Ak ck, A = some ⟨b, off, none⟩ ∧ b < B ∧ w'.cell? ⟨b, off + k, none⟩ = some (.slice Ak x.length ck) ∧ LR kdInt w' B Ak ck x := by
  obtain ⟨b, off, cs, rfl, hb, ⟨Ak, ck, rfl, hrk⟩, hc⟩ := (h.ext k' hB).2.2 k x hx
  refine ⟨b, off, Ak, ck, rfl, hb, ?_, hrk⟩
  have := hc 0 _ rfl
  rwa [show k * kdL.size + 0 = k from by show k * 1 + 0 = k; omega] at this

theorem LR.mono_len {w : World} {B c : Nat} {A : Option Addr} {zs : List Int} (h : LR kdInt w B A c zs) (hn : zs.length ≤ 1048576) : True := trivial

set_option maxHeartbeats 2000000 in
theorem i.isMarks_any (A A' : Option Addr) (c c' B : Nat) (d : MD) (w : World) (h1 : LR kdL w B A c d.1) (h2 : LR kdL w B A' c' d.2) (hB : B ≤ w.heap.size) (hwt : kdM.wt d ≤ 1048576) :
    Calls Try.prog 38 #[.agg #[.slice A d.1.length c, .slice A' d.2.length c']] w fun e w' => e = .returned (.bool (marksB d)) ∧ Ext w w' := by
  have H1 := hide h1
  have H2 := hide h2
  have HW := hide hwt
  have hw1 : Hid (wtL kdL d.1 ≤ 1048576) := by have : kdM.wt d = wtL kdL d.1 + wtL kdL d.2 := rfl; show _ ≤ _; omega
  have hw2 : Hid (wtL kdL d.2 ≤ 1048576) := by have : kdM.wt d = wtL kdL d.1 + wtL kdL d.2 := rfl; show _ ≤ _; omega
  have hc1 := h1.1; have hc1' := h1.2.1; have hc2 := h2.1; have hc2' := h2.2.1
  clear h1 h2 hwt
  obtain ⟨n, hn⟩ : ∃ n, Hid (d.1.length = n) := ⟨_, rfl⟩
  obtain ⟨n', hn'⟩ : ∃ n', Hid (d.2.length = n') := ⟨_, rfl⟩
  rw [hn.out] at hc1 ⊢
  rw [hn'.out] at hc2 ⊢
  obtain ⟨W0, hW0⟩ : ∃ W0, Hid (W0 = w.alloc (.cells #[.slice A n c, .slice A' n' c'] 25)) := ⟨_, rfl⟩
  have X0 : Hid (Ext w W0) := by rw [hW0.out]; exact Ext.alloc w _
  have B0 := hide (show Blk W0 w.heap.size #[.slice A n c, .slice A' n' c'] 25 by rw [hW0.out]; exact Blk.new rfl _ _)
  by_cases hg : 14 < n
  · have HF : Hid (marksB d = false) := by show _ = _; have := hn.out; simp [marksB]; omega
    rw [HF.out]
    have hg' : (14 : Int) < n := by omega
    go_enter Try.func38, Try.ntmps38
    go_wp2_with fail
    go_ret
    exact ⟨rfl, Ext.alloc _ _⟩
  · have hg' : ¬ (14 : Int) < n := by omega
    by_cases hc : n' = 3
    · have hc3 : ((n' : Int) != 3) = false := by simp; omega
      have hp' : (0 : Int) < (n' : Int) := by omega
      have hp3 : n' ≤ 3 := by omega
      have hq3 : 3 ≤ n' := by omega
      clear hc
      obtain ⟨J, hJ⟩ : ∃ J : Nat, Hid (judges d = J) := ⟨_, rfl⟩
      obtain ⟨x0, hx0'⟩ : ∃ x, d.2[0]? = some x := ⟨_, List.getElem?_eq_getElem (by have := hn'.out; omega)⟩
      have hx0 := hide hx0'
      clear hx0'
      have hJ0 : Hid (x0.length = J) := by show _ = _; rw [← hJ.out]; have := hx0.out; simp [judges, this]
      have hJw : J ≤ 1048576 := by have h5 := wtL_at kdL d.2 0 x0 hx0.out; have h6 : kdL.wt x0 = x0.length := wtL_int x0; have := hJ0.out; have := hw2.out; omega
      obtain ⟨b, off, Ak, ck, rfl, hb, hck, hrk⟩ := H2.out.row X0.out hB hx0.out
      rw [hJ0.out] at hck
      simp only [Nat.add_zero] at hck
      rw [hW0.out] at hck
      clear hrk
      cases hin : inB 3 9 (J : Int)
      · have HF : Hid (marksB d = false) := by show _ = _; rw [marksB, hJ.out, hin]; simp
        rw [HF.out]
        go_enter Try.func38, Try.ntmps38
        go_wp2_with (go_at_call 29; refine (i.within_any _ _ _ _).mono ?_; rintro e w' ⟨rfl, rfl⟩)
        go_ret
        exact ⟨rfl, Ext.alloc _ _⟩
      · have HF : Hid (marksB d = (d.1.all (okRow J) && d.2.all (okComp J))) := by
          show _ = _
          rw [marksB, hJ.out, hin]
          have e1 : decide (d.1.length ≤ 14) = true := by have := hn.out; simp; omega
          have e2 : decide (d.2.length = 3) = true := by have := hn'.out; simp; omega
          rw [e1, e2]; simp
        obtain ⟨R, hR⟩ : ∃ R, Hid (marksB d = R) := ⟨_, rfl⟩
        rw [hR.out]
        go_enter Try.func38, Try.ntmps38
        go_wp2_with (go_at_call 29; refine (i.within_any _ _ _ _).mono ?_; rintro e w' ⟨rfl, rfl⟩)
        rw [← hW0.out]
        clear hck hW0 hin
        go_loopw [4, 29] (fun _ i wr => ∃ k : Nat, k ≤ n ∧ i = .int .i64 k ∧ (d.1.take k).all (okRow J) = true ∧ Ext W0 wr) (fun _ i _ => n - (intOf i).toNat)
        case atStart => exact ⟨0, Nat.zero_le _, rfl, rfl, Ext.refl _⟩
        case round =>
          obtain ⟨k, hk, rfl, hall, hxr⟩ := hrel
          have HA := hide hall
          have HX := hide hxr
          have cB := (B0.out.ext hxr).cell
          clear hall hxr
          by_cases hlt : k < n
          · obtain ⟨x, hxk⟩ : ∃ x, Hid (d.1[k]? = some x) := ⟨_, List.getElem?_eq_getElem (by rw [hn.out]; exact hlt)⟩
            obtain ⟨b1, off1, Ax, cx, rfl, hb1, hck, hrk⟩ := H1.out.row (X0.out.trans HX.out) hB hxk.out
            have hxw : x.length ≤ 1048576 := by have h5 := wtL_at kdL d.1 k x hxk.out; have h6 : kdL.wt x = x.length := wtL_int x; have := hw1.out; omega
            have hcx := hrk.1
            have hcx' := hrk.2.1
            have HRK := hide hrk
            clear hrk
            go_wp2_with fail
            refine (i.judgesOf_any _ _ _ _ _ _ _ d _ (H2.out.ext (X0.out.trans HX.out) hB) (Nat.le_trans hB (X0.out.trans HX.out).size) (by have := hn'.out; omega) hn'.out.symm).mono ?_
            rintro e w2 ⟨rfl, hx2⟩
            rw [hJ.out]
            have HX2 := hide (HX.out.trans hx2)
            have HRK2 := hide (HRK.out.ext hx2 (Nat.le_trans hB (X0.out.trans HX.out).size))
            clear hx2 cB hck
            by_cases hlen : x.length = J
            · have hne : ((x.length : Int) != (J : Int)) = false := by simp; omega
              have HLN := hide hlen
              clear hlen
              cases hal : x.all (inB (-5) 5)
              · go_wp2_with (go_at_call 47; refine (i.allWithin_any _ _ _ _ x _ _ _ HRK2.out.sl hxw).mono ?_; rintro e w3 ⟨rfl, rfl⟩)
                go_ret
                have hf : Hid (okRow J x = false) := by show _ = _; simp [okRow, hal]
                exact ⟨ret_bool (by rw [← hR.out, HF.out, allG_stop hxk.out hf.out]; simp), X0.out.trans HX2.out⟩
              · have hf : Hid (okRow J x = true) := by show _ = _; simp [okRow, hal, HLN.out]
                go_wp2_with (go_at_call 47; refine (i.allWithin_any _ _ _ _ x _ _ _ HRK2.out.sl hxw).mono ?_; rintro e w3 ⟨rfl, rfl⟩)
                go_roundw
                case rel => exact ⟨k + 1, by omega, by go_num, allG_step hxk.out HA.out hf.out, HX2.out⟩
                case measure => simp [intOf]; omega
            · have hne : ((x.length : Int) != (J : Int)) = true := by simp; omega
              have hf : Hid (okRow J x = false) := by show _ = _; simp [okRow, hlen]
              clear hlen
              go_wp2
              go_ret
              exact ⟨ret_bool (by rw [← hR.out, HF.out, allG_stop hxk.out hf.out]; simp), X0.out.trans HX2.out⟩
          · have HE := hide (allG_end (by rw [hn.out]; exact hlt) HA.out)
            go_wp2_with fail
            obtain ⟨wo, rfl⟩ : ∃ wo : World, wo = wr := ⟨_, rfl⟩
            clear cB
            go_loopw [6, 47] (fun _ i wr => ∃ k : Nat, k ≤ n' ∧ i = .int .i64 k ∧ (d.2.take k).all (okComp J) = true ∧ Ext W0 wr) (fun _ i _ => n' - (intOf i).toNat)
            case atStart => exact ⟨0, Nat.zero_le _, rfl, rfl, HX.out⟩
            case round =>
              obtain ⟨k2, hk2, rfl, hall, hxr⟩ := hrel
              have HA2 := hide hall
              have HX1 := hide hxr
              have cB := (B0.out.ext HX1.out).cell
              clear hall hxr
              by_cases hlt2 : k2 < n'
              · obtain ⟨x, hxk⟩ : ∃ x, Hid (d.2[k2]? = some x) := ⟨_, List.getElem?_eq_getElem (by rw [hn'.out]; exact hlt2)⟩
                obtain ⟨b1, off1, Ax, cx, heq, hb1, hck, hrk⟩ := H2.out.row (X0.out.trans HX1.out) hB hxk.out
                simp only [Option.some.injEq, Addr.mk.injEq, and_true] at heq
                obtain ⟨rfl, rfl⟩ := heq
                have hxw : x.length ≤ 1048576 := by have h5 := wtL_at kdL d.2 k2 x hxk.out; have h6 : kdL.wt x = x.length := wtL_int x; have := hw2.out; omega
                have hcx := hrk.1
                have hcx' := hrk.2.1
                have HRK := hide hrk
                clear hrk
                go_wp2_with fail
                refine (i.judgesOf_any _ _ _ _ _ _ _ d _ (H2.out.ext (X0.out.trans HX1.out) hB) (Nat.le_trans hB (X0.out.trans HX1.out).size) (by have := hn'.out; omega) hn'.out.symm).mono ?_
                rintro e w2 ⟨rfl, hx2⟩
                rw [hJ.out]
                have HX2 := hide (HX1.out.trans hx2)
                have HRK2 := hide (HRK.out.ext hx2 (Nat.le_trans hB (X0.out.trans HX1.out).size))
                clear hx2 cB hck
                by_cases hlen : x.length = J
                · have hne : ((x.length : Int) != (J : Int)) = false := by simp; omega
                  have HLN := hide hlen
                  clear hlen
                  cases hal : x.all compMark
                  · go_wp2_with (go_at_call 48; refine (containsFunc_marks _ _ _ _ x _ HRK2.out.sl hxw).mono ?_; rintro e w3 ⟨rfl, rfl⟩)
                    go_ret
                    have hf : Hid (okComp J x = false) := by show _ = _; simp [okComp, hal]
                    exact ⟨ret_bool (by rw [← hR.out, HF.out, allG_stop hxk.out hf.out]; simp), X0.out.trans HX2.out⟩
                  · have hf : Hid (okComp J x = true) := by show _ = _; simp [okComp, hal, HLN.out]
                    go_wp2_with (go_at_call 48; refine (containsFunc_marks _ _ _ _ x _ HRK2.out.sl hxw).mono ?_; rintro e w3 ⟨rfl, rfl⟩)
                    go_roundw
                    case rel => exact ⟨k2 + 1, by omega, by go_num, allG_step hxk.out HA2.out hf.out, HX2.out⟩
                    case measure => simp [intOf]; omega
                · have hne : ((x.length : Int) != (J : Int)) = true := by simp; omega
                  have hf : Hid (okComp J x = false) := by show _ = _; simp [okComp, hlen]
                  clear hlen
                  go_wp2
                  go_ret
                  exact ⟨ret_bool (by rw [← hR.out, HF.out, allG_stop hxk.out hf.out]; simp), X0.out.trans HX2.out⟩
              · have HE2 := hide (allG_end (by rw [hn'.out]; exact hlt2) HA2.out)
                go_wp2
                go_ret
                exact ⟨ret_bool (by rw [← hR.out, HF.out, HE.out, HE2.out]; rfl), X0.out.trans HX1.out⟩
    · have hc3 : ((n' : Int) != 3) = true := by simp; omega
      have HF : Hid (marksB d = false) := by show _ = _; have := hn'.out; simp [marksB]; omega
      rw [HF.out]
      clear hc
      go_enter Try.func38, Try.ntmps38
      go_wp2_with fail
      go_ret
      exact ⟨rfl, Ext.alloc _ _⟩
end Go.Proofs.Ytifdpmpconjhmaa
