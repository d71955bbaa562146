/- Valid marks: the reference's walk. -/
import Derived.Test.YtifdpmpconjhmaaMB
namespace Go.Proofs.Ytifdpmpconjhmaa
open Go.RowKit Go.Sort
set_option linter.unusedVariables false

def mkListF (zs : List Int) (j : Int) (comp : Bool) : Bool := decide ((zs.length : Int) = j) && (if comp then zs.all compMark else zs.all (inB (-5) 5))
def t25 (x : Int) : Bool := x.tmod 25 == 0
theorem comp_split (zs : List Int) : zs.all compMark = (zs.all t25 && zs.all (inB 0 1000)) := by
  induction zs with
  | nil => rfl
  | cons z t ih =>
    simp only [List.all_cons, ih, compMark, t25]
    cases inB 0 1000 z <;> cases (z.tmod 25 == 0) <;> cases t.all t25 <;> cases t.all (inB 0 1000) <;> rfl

set_option maxHeartbeats 1000000 in
theorem s.mkList_any (A : Option Addr) (n c B : Nat) (zs : List Int) (j : Int) (b : Bool) (w : World) (h : SlI w B A n zs) (hn : n ≤ 1048576) :
    Calls Try.prog 55 #[.slice A n c, .int .i64 j, .bool b] w fun e w' => e = .returned (.bool (mkListF zs j b)) ∧ w = w' := by
  have hl := hide h.len
  obtain ⟨R, hR⟩ : ∃ R, Hid (mkListF zs j b = R) := ⟨_, rfl⟩
  rw [hR.out]
  cases b
  · have HF : Hid (mkListF zs j false = (decide ((n : Int) = j) && zs.all (inB (-5) 5))) := by show _ = _; simp [mkListF, hl.out]
    go_enter Try.func55, Try.ntmps55
    go_wp2
    go_loop [8, 11] (fun _ i => ∃ k : Nat, k ≤ n ∧ i = .int .i64 k) (fun _ i => n - (intOf i).toNat)
    case atStart => exact ⟨0, Nat.zero_le _, rfl⟩
    case round =>
      obtain ⟨k, hk, rfl⟩ := hrel
      by_cases hlt : k < n
      · obtain ⟨b, off, rfl, hb, hc⟩ := h.cells (by omega)
        have hck := hc k hlt
        clear hc
        go_wp2
        go_round
        case rel => exact ⟨k + 1, by omega, by go_num⟩
        case measure => simp [intOf]; omega
      · by_cases hj : (n : Int) = j
        · have hb' : ((n : Int) == j) = true := by simp [hj]
          have HJ := hide hj
          clear hj
          go_wp2_with (go_at_call 57; refine (s.l1All_any _ _ _ _ zs _ _ _ h hn).mono ?_; rintro e w' ⟨rfl, rfl⟩)
          go_ret
          exact ⟨ret_bool (by rw [← hR.out, HF.out, HJ.out]; simp), rfl⟩
        · have hb' : ((n : Int) == j) = false := by simp [hj]
          have HJ := hide hj
          clear hj
          go_wp2_with (go_at_call 57; refine (s.l1All_any _ _ _ _ zs _ _ _ h hn).mono ?_; rintro e w' ⟨rfl, rfl⟩)
          go_ret
          exact ⟨ret_bool (by rw [← hR.out, HF.out]; simp [HJ.out]), rfl⟩
  · have HF : Hid (mkListF zs j true = (decide ((n : Int) = j) && (zs.all t25 && zs.all (inB 0 1000)))) := by show _ = _; simp [mkListF, hl.out, comp_split]
    go_enter Try.func55, Try.ntmps55
    go_wp2
    go_loop [8, 11] (fun _ i => ∃ k : Nat, k ≤ n ∧ i = .int .i64 k ∧ (zs.take k).all t25 = true) (fun _ i => n - (intOf i).toNat)
    case atStart => exact ⟨0, Nat.zero_le _, rfl, rfl⟩
    case round =>
      obtain ⟨k, hk, rfl, hall⟩ := hrel
      have HA := hide hall
      clear hall
      by_cases hlt : k < n
      · obtain ⟨b, off, rfl, hb, hc⟩ := h.cells (by omega)
        have hck := hc k hlt
        clear hc
        cases ht : t25 (zs.getD k 0)
        · have hs := hide (all_stop (k := k) (by have := hl.out; omega) ht)
          have hm : ((zs.getD k 0).tmod 25 != 0) = true := by show (!((zs.getD k 0).tmod 25 == 0)) = true; rw [show ((zs.getD k 0).tmod 25 == 0) = false from ht]; rfl
          clear ht
          generalize zs.getD k 0 = x at *
          go_wp2
          go_ret
          exact ⟨ret_bool (by rw [← hR.out, HF.out, hs.out]; simp), rfl⟩
        · have hs := hide (all_step (by have := hl.out; omega) HA.out ht)
          have hm : ((zs.getD k 0).tmod 25 != 0) = false := by show (!((zs.getD k 0).tmod 25 == 0)) = false; rw [show ((zs.getD k 0).tmod 25 == 0) = true from ht]; rfl
          clear ht
          generalize zs.getD k 0 = x at *
          go_wp2
          go_round
          case rel => exact ⟨k + 1, by omega, by go_num, hs.out⟩
          case measure => simp [intOf]; omega
      · have HE := hide (all_end (by have := hl.out; omega) HA.out)
        by_cases hj : (n : Int) = j
        · have hb' : ((n : Int) == j) = true := by simp [hj]
          have HJ := hide hj
          clear hj
          go_wp2_with (go_at_call 57; refine (s.l1All_any _ _ _ _ zs _ _ _ h hn).mono ?_; rintro e w' ⟨rfl, rfl⟩)
          go_ret
          exact ⟨ret_bool (by rw [← hR.out, HF.out, HE.out, HJ.out]; simp), rfl⟩
        · have hb' : ((n : Int) == j) = false := by simp [hj]
          have HJ := hide hj
          clear hj
          go_wp2_with (go_at_call 57; refine (s.l1All_any _ _ _ _ zs _ _ _ h hn).mono ?_; rintro e w' ⟨rfl, rfl⟩)
          go_ret
          exact ⟨ret_bool (by rw [← hR.out, HF.out]; simp [HJ.out]), rfl⟩

theorem mkListF_row (x : List Int) (J : Nat) : mkListF x (J : Int) false = okRow J x := by
  unfold mkListF okRow
  by_cases h : x.length = J
  · simp [h]
  · have : ¬ ((x.length : Int) = (J : Int)) := by omega
    simp [h, this]
theorem mkListF_comp (x : List Int) (J : Nat) : mkListF x (J : Int) true = okComp J x := by
  unfold mkListF okComp
  by_cases h : x.length = J
  · simp [h]
  · have : ¬ ((x.length : Int) = (J : Int)) := by omega
    simp [h, this]

set_option maxHeartbeats 2000000 in
theorem s.mkAll_any (A A' : Option Addr) (c c' B : Nat) (d : MD) (w : World) (h1 : LR kdL w B A c d.1) (h2 : LR kdL w B A' c' d.2) (hB : B ≤ w.heap.size) (hwt : kdM.wt d ≤ 1048576) :
    Calls Try.prog 45 #[.agg #[.slice A d.1.length c, .slice A' d.2.length c']] w fun e w' => e = .returned (.bool (marksB d)) ∧ Ext w w' := by
  have H1 := hide h1
  have H2 := hide h2
  have hw1 : Hid (wtL kdL d.1 ≤ 1048576) := by have : kdM.wt d = wtL kdL d.1 + wtL kdL d.2 := rfl; show _ ≤ _; omega
  have hw2 : Hid (wtL kdL d.2 ≤ 1048576) := by have : kdM.wt d = wtL kdL d.1 + wtL kdL d.2 := rfl; show _ ≤ _; omega
  have hc1 := h1.1; have hc1' := h1.2.1; have hc2 := h2.1; have hc2' := h2.2.1
  clear h1 h2 hwt
  obtain ⟨n, hn⟩ : ∃ n, Hid (d.1.length = n) := ⟨_, rfl⟩
  obtain ⟨n', hn'⟩ : ∃ n', Hid (d.2.length = n') := ⟨_, rfl⟩
  rw [hn.out] at hc1 ⊢
  rw [hn'.out] at hc2 ⊢
  obtain ⟨W0, hW0⟩ : ∃ W0, Hid (W0 = w.alloc (.cells #[.slice A n c, .slice A' n' c'] 25)) := ⟨_, rfl⟩
  have X0 : Hid (Ext w W0) := by rw [hW0.out]; exact Ext.alloc w _
  have B0 := hide (show Blk W0 w.heap.size #[.slice A n c, .slice A' n' c'] 25 by rw [hW0.out]; exact Blk.new rfl _ _)
  by_cases hc : n' = 3
  · have hc3 : ((n' : Int) != 3) = false := by simp; omega
    have hp' : (0 : Int) < (n' : Int) := by omega
    have hp3 : n' ≤ 3 := by omega
    have hq3 : 3 ≤ n' := by omega
    clear hc
    by_cases hg : 14 < n
    · have HF : Hid (marksB d = false) := by show _ = _; have := hn.out; simp [marksB]; omega
      rw [HF.out]
      have hg' : (14 : Int) < n := by omega
      go_enter Try.func45, Try.ntmps45
      go_wp2_with fail
      go_ret
      exact ⟨rfl, Ext.alloc _ _⟩
    · have hg' : ¬ (14 : Int) < n := by omega
      obtain ⟨J, hJ⟩ : ∃ J : Nat, Hid (judges d = J) := ⟨_, rfl⟩
      obtain ⟨x0, hx0'⟩ : ∃ x, d.2[0]? = some x := ⟨_, List.getElem?_eq_getElem (by have := hn'.out; omega)⟩
      have hx0 := hide hx0'
      clear hx0'
      have hJ0 : Hid (x0.length = J) := by show _ = _; rw [← hJ.out]; have := hx0.out; simp [judges, this]
      have hJw : J ≤ 1048576 := by have h5 := wtL_at kdL d.2 0 x0 hx0.out; have h6 : kdL.wt x0 = x0.length := wtL_int x0; have := hJ0.out; have := hw2.out; omega
      obtain ⟨b, off, Ak, ck, rfl, hb, hck, hrk⟩ := H2.out.row X0.out hB hx0.out
      rw [hJ0.out] at hck
      simp only [Nat.add_zero] at hck
      rw [hW0.out] at hck
      clear hrk
      have HF : Hid (marksB d = (inB 3 9 J && d.1.all (okRow J) && d.2.all (okComp J))) := by
        show _ = _
        rw [marksB, hJ.out]
        have e1 : decide (d.1.length ≤ 14) = true := by have := hn.out; simp; omega
        have e2 : decide (d.2.length = 3) = true := by have := hn'.out; simp; omega
        rw [e1, e2]; simp
      obtain ⟨R, hR⟩ : ∃ R, Hid (marksB d = R) := ⟨_, rfl⟩
      rw [hR.out]
      go_enter Try.func45, Try.ntmps45
      go_wp2_with fail
      rw [← hW0.out]
      clear hck hW0
      go_loopw [5, 26] (fun _ i wr => ∃ k : Nat, k ≤ n ∧ i = .int .i64 k ∧ (d.1.take k).all (okRow J) = true ∧ wr = W0) (fun _ i _ => n - (intOf i).toNat)
      case atStart => exact ⟨0, Nat.zero_le _, rfl, rfl, rfl⟩
      case round =>
        obtain ⟨k, hk, rfl, hall, rfl⟩ := hrel
        have HA := hide hall
        clear hall
        by_cases hlt : k < n
        · obtain ⟨x, hxk⟩ : ∃ x, Hid (d.1[k]? = some x) := ⟨_, List.getElem?_eq_getElem (by rw [hn.out]; exact hlt)⟩
          obtain ⟨b1, off1, Ax, cx, rfl, hb1, hck, hrk⟩ := H1.out.row X0.out hB hxk.out
          have hxw : x.length ≤ 1048576 := by have h5 := wtL_at kdL d.1 k x hxk.out; have h6 : kdL.wt x = x.length := wtL_int x; have := hw1.out; omega
          have HRK := hide hrk
          clear hrk
          cases hf : okRow J x
          · have hf' : mkListF x (J : Int) false = false := by rw [mkListF_row]; exact hf
            have HS := hide (allG_stop hxk.out hf)
            clear hf
            go_wp2_with (go_at_call 55; refine (s.mkList_any _ _ _ _ x _ _ _ HRK.out.sl hxw).mono ?_; rintro e w3 ⟨rfl, rfl⟩)
            go_ret
            exact ⟨ret_bool (by rw [← hR.out, HF.out, HS.out]; simp), X0.out⟩
          · have hf' : mkListF x (J : Int) false = true := by rw [mkListF_row]; exact hf
            have HS := hide (allG_step hxk.out HA.out hf)
            clear hf
            go_wp2_with (go_at_call 55; refine (s.mkList_any _ _ _ _ x _ _ _ HRK.out.sl hxw).mono ?_; rintro e w3 ⟨rfl, rfl⟩)
            go_roundw
            case rel => exact ⟨k + 1, by omega, by go_num, HS.out, trivial⟩
            case measure => simp [intOf]; omega
        · have HE := hide (allG_end (by rw [hn.out]; exact hlt) HA.out)
          have cB := B0.out.cell
          go_wp2_with fail
          obtain ⟨wo, rfl⟩ : ∃ wo : World, wo = wr := ⟨_, rfl⟩
          clear cB
          go_loopw [7, 38] (fun _ i wr => ∃ k : Nat, k ≤ n' ∧ i = .int .i64 k ∧ (d.2.take k).all (okComp J) = true ∧ wr = wo) (fun _ i _ => n' - (intOf i).toNat)
          case atStart => exact ⟨0, Nat.zero_le _, rfl, rfl, rfl⟩
          case round =>
            obtain ⟨k2, hk2, rfl, hall, rfl⟩ := hrel
            have HA2 := hide hall
            clear hall
            by_cases hlt2 : k2 < n'
            · obtain ⟨x, hxk⟩ : ∃ x, Hid (d.2[k2]? = some x) := ⟨_, List.getElem?_eq_getElem (by rw [hn'.out]; exact hlt2)⟩
              obtain ⟨b1, off1, Ax, cx, heq, hb1, hck, hrk⟩ := H2.out.row X0.out hB hxk.out
              simp only [Option.some.injEq, Addr.mk.injEq, and_true] at heq
              obtain ⟨rfl, rfl⟩ := heq
              have hxw : x.length ≤ 1048576 := by have h5 := wtL_at kdL d.2 k2 x hxk.out; have h6 : kdL.wt x = x.length := wtL_int x; have := hw2.out; omega
              have HRK := hide hrk
              clear hrk
              cases hf : okComp J x
              · have hf' : mkListF x (J : Int) true = false := by rw [mkListF_comp]; exact hf
                have HS := hide (allG_stop hxk.out hf)
                clear hf
                go_wp2_with (go_at_call 55; refine (s.mkList_any _ _ _ _ x _ _ _ HRK.out.sl hxw).mono ?_; rintro e w3 ⟨rfl, rfl⟩)
                go_ret
                exact ⟨ret_bool (by rw [← hR.out, HF.out, HS.out]; simp), X0.out⟩
              · have hf' : mkListF x (J : Int) true = true := by rw [mkListF_comp]; exact hf
                have HS := hide (allG_step hxk.out HA2.out hf)
                clear hf
                go_wp2_with (go_at_call 55; refine (s.mkList_any _ _ _ _ x _ _ _ HRK.out.sl hxw).mono ?_; rintro e w3 ⟨rfl, rfl⟩)
                go_roundw
                case rel => exact ⟨k2 + 1, by omega, by go_num, HS.out, trivial⟩
                case measure => simp [intOf]; omega
            · have HE2 := hide (allG_end (by rw [hn'.out]; exact hlt2) HA2.out)
              go_wp2_with (go_at_call 31; refine (s.l1In_any _ _ _ _).mono ?_; rintro e w3 ⟨rfl, rfl⟩)
              go_ret
              exact ⟨ret_bool (by rw [← hR.out, HF.out, HE.out, HE2.out]; simp), X0.out⟩
  · have hc3 : ((n' : Int) != 3) = true := by simp; omega
    have HF : Hid (marksB d = false) := by show _ = _; have := hn'.out; simp [marksB]; omega
    rw [HF.out]
    clear hc
    go_enter Try.func45, Try.ntmps45
    go_wp2_with fail
    go_ret
    exact ⟨rfl, Ext.alloc _ _⟩
end Go.Proofs.Ytifdpmpconjhmaa
