/- Marks that have a judge; the marks of one judge. -/
import Derived.Test.YtifdpmpconjhmaaML
import Derived.Test.YtifdpmpconjhmaaGA
namespace Go.Proofs.Ytifdpmpconjhmaa
open Go.RowKit Go.Sort
set_option linter.unusedVariables false

def hasJudge (d : MD) (j : Int) : Bool := marksB d && inB 0 ((judges d : Int) - 1) j
theorem marksB_ok {d : MD} (h : marksB d = true) : d.1.length ≤ 14 ∧ d.2.length = 3 ∧ 3 ≤ judges d ∧ judges d ≤ 9 ∧ (∀ x ∈ d.1, x.length = judges d ∧ ∀ z ∈ x, -5 ≤ z ∧ z ≤ 5) ∧ (∀ x ∈ d.2, x.length = judges d ∧ ∀ z ∈ x, 0 ≤ z ∧ z ≤ 1000 ∧ z.tmod 25 = 0) := by
  simp only [marksB, inB, okRow, okComp, compMark, Bool.and_eq_true, decide_eq_true_eq, List.all_eq_true, beq_iff_eq] at h
  obtain ⟨⟨⟨⟨h1, h2⟩, h3, h4⟩, h5⟩, h6⟩ := h
  exact ⟨h1, h2, by omega, by omega, fun x hx => ⟨(h5 x hx).1, fun z hz => (h5 x hx).2 z hz⟩, fun x hx => ⟨(h6 x hx).1, fun z hz => have h7 := (h6 x hx).2 z hz; ⟨h7.1.1, h7.1.2, h7.2⟩⟩⟩
theorem hasJudge_ok {d : MD} {j : Int} (h : hasJudge d j = true) : marksB d = true ∧ ∃ k : Nat, j = k ∧ k < judges d := by
  simp only [hasJudge, inB, Bool.and_eq_true, decide_eq_true_eq] at h
  exact ⟨h.1, j.toNat, by omega, by omega⟩
theorem rows_ok {d : MD} {k : Nat} (h : marksB d = true) (hk : k < judges d) : (∀ x ∈ d.1, k < x.length ∧ x.length ≤ 9) ∧ (∀ x ∈ d.2, k < x.length ∧ x.length ≤ 9) := by
  obtain ⟨_, _, _, h4, h5, h6⟩ := marksB_ok h
  exact ⟨fun x hx => by have := (h5 x hx).1; omega, fun x hx => by have := (h6 x hx).1; omega⟩

set_option maxHeartbeats 1000000 in
theorem s.mkHas_m (w : World) (v : Value) (d : MD) (z : Int) (h : kM.rd w v d) (hok : kM.ok d) :
    Calls Try.prog 27 #[v, .int .i64 z] w fun e w' => e = .returned (.bool (hasJudge d z)) ∧ Ext w w' := by
  obtain ⟨A, c, A', c', rfl, h1, h2⟩ := kM.lr h
  have hok : kdM.wt d ≤ 1048576 := hok
  obtain ⟨R, hR⟩ : ∃ R, Hid (hasJudge d z = R) := ⟨_, rfl⟩
  rw [hR.out]
  have H1 := hide h1
  have H2 := hide h2
  clear h h1 h2
  obtain ⟨n, hn⟩ : ∃ n, Hid (d.1.length = n) := ⟨_, rfl⟩
  obtain ⟨n', hn'⟩ : ∃ n', Hid (d.2.length = n') := ⟨_, rfl⟩
  rw [hn.out, hn'.out]
  obtain ⟨W0, hW0⟩ : ∃ W0, Hid (W0 = w.alloc (.cells #[.slice A n c, .slice A' n' c'] 25)) := ⟨_, rfl⟩
  have X0 : Hid (Ext w W0) := by rw [hW0.out]; exact Ext.alloc w _
  have B0 : Hid (Blk W0 w.heap.size #[.slice A n c, .slice A' n' c'] 25) := by rw [hW0.out]; exact Blk.new rfl _ _
  go_enter Try.func27, Try.ntmps27
  go_wp2_with fail
  rw [← hW0.out]
  have hc := s.mkAll_any A A' c c' w.heap.size d W0 (H1.out.ext X0.out (Nat.le_refl _)) (H2.out.ext X0.out (Nat.le_refl _)) X0.out.size hok
  rw [hn.out, hn'.out] at hc
  refine hc.mono ?_
  rintro e w1 ⟨rfl, hx⟩
  have X1 := hide (X0.out.trans hx)
  replace B0 := hide (B0.out.ext hx)
  clear hx hc hW0
  have cB := B0.out.cell
  cases hm : marksB d
  · have HM := hide hm
    clear hm
    go_wp2
    go_ret
    exact ⟨ret_bool (by rw [← hR.out]; simp [hasJudge, HM.out]), X1.out⟩
  · have h0 : 0 < d.2.length := by have := marksB_three hm; omega
    have hJ : judges d ≤ 9 := (marksB_ok hm).2.2.2.1
    have HM := hide hm
    clear hm
    obtain ⟨J, HJ⟩ : ∃ J, Hid (judges d = J) := ⟨_, rfl⟩
    rw [HJ.out] at hJ
    have hc := s.mkJudges_any A A' n n' c c' w.heap.size d w1 (H2.out.ext X1.out (Nat.le_refl _)) X1.out.size h0 hn'.out.symm
    rw [HJ.out] at hc
    have HC := hide hc
    clear hc
    go_wp2_with (first
      | (go_at_call 41; refine HC.out.mono ?_; rintro e w2 ⟨rfl, hx2⟩; have X2 := hide (X1.out.trans hx2); clear hx2)
      | (go_at_call 31; refine (s.l1In_any _ _ _ _).mono ?_; rintro e w3 ⟨rfl, rfl⟩))
    go_ret
    exact ⟨ret_bool (by rw [← hR.out]; simp [hasJudge, HM.out, HJ.out]), X2.out⟩

set_option maxHeartbeats 1000000 in
theorem i.isJudge_m (w : World) (v : Value) (d : MD) (z : Int) (h : kM.rd w v d) (hok : kM.ok d) :
    Calls Try.prog 25 #[v, .int .i64 z] w fun e w' => e = .returned (.bool (hasJudge d z)) ∧ Ext w w' := by
  obtain ⟨A, c, A', c', rfl, h1, h2⟩ := kM.lr h
  have hok : kdM.wt d ≤ 1048576 := hok
  obtain ⟨R, hR⟩ : ∃ R, Hid (hasJudge d z = R) := ⟨_, rfl⟩
  rw [hR.out]
  have H1 := hide h1
  have H2 := hide h2
  clear h h1 h2
  obtain ⟨n, hn⟩ : ∃ n, Hid (d.1.length = n) := ⟨_, rfl⟩
  obtain ⟨n', hn'⟩ : ∃ n', Hid (d.2.length = n') := ⟨_, rfl⟩
  rw [hn.out, hn'.out]
  obtain ⟨W0, hW0⟩ : ∃ W0, Hid (W0 = w.alloc (.cells #[.slice A n c, .slice A' n' c'] 25)) := ⟨_, rfl⟩
  have X0 : Hid (Ext w W0) := by rw [hW0.out]; exact Ext.alloc w _
  have B0 : Hid (Blk W0 w.heap.size #[.slice A n c, .slice A' n' c'] 25) := by rw [hW0.out]; exact Blk.new rfl _ _
  go_enter Try.func25, Try.ntmps25
  go_wp2_with fail
  rw [← hW0.out]
  have hc := i.isMarks_any A A' c c' w.heap.size d W0 (H1.out.ext X0.out (Nat.le_refl _)) (H2.out.ext X0.out (Nat.le_refl _)) X0.out.size hok
  rw [hn.out, hn'.out] at hc
  refine hc.mono ?_
  rintro e w1 ⟨rfl, hx⟩
  have X1 := hide (X0.out.trans hx)
  replace B0 := hide (B0.out.ext hx)
  clear hx hc hW0
  have cB := B0.out.cell
  cases hm : marksB d
  · have HM := hide hm
    clear hm
    go_wp2
    go_ret
    exact ⟨ret_bool (by rw [← hR.out]; simp [hasJudge, HM.out]), X1.out⟩
  · have h0 : 0 < d.2.length := by have := marksB_three hm; omega
    have hJ : judges d ≤ 9 := (marksB_ok hm).2.2.2.1
    have HM := hide hm
    clear hm
    obtain ⟨J, HJ⟩ : ∃ J, Hid (judges d = J) := ⟨_, rfl⟩
    rw [HJ.out] at hJ
    have hc := i.judgesOf_any A A' n n' c c' w.heap.size d w1 (H2.out.ext X1.out (Nat.le_refl _)) X1.out.size h0 hn'.out.symm
    rw [HJ.out] at hc
    have HC := hide hc
    clear hc
    go_wp2_with (first
      | (go_at_call 39; refine HC.out.mono ?_; rintro e w2 ⟨rfl, hx2⟩; have X2 := hide (X1.out.trans hx2); clear hx2)
      | (go_at_call 29; refine (i.within_any _ _ _ _).mono ?_; rintro e w3 ⟨rfl, rfl⟩))
    go_ret
    exact ⟨ret_bool (by rw [← hR.out]; simp [hasJudge, HM.out, HJ.out]), X2.out⟩

/-! ### The marks of a judge in some lists -/
def colF (xs : List (List Int)) (j : Nat) : List Int := xs.map (·.getD j 0)
theorem colF_len (xs : List (List Int)) (j : Nat) : (colF xs j).length = xs.length := by simp [colF]
theorem colF_succ {xs : List (List Int)} {j k : Nat} {x : List Int} (h : xs[k]? = some x) : (colF xs j).take (k + 1) = (colF xs j).take k ++ [x.getD j 0] := by
  obtain ⟨hk, rfl⟩ := List.getElem?_eq_some_iff.1 h
  rw [List.take_succ_eq_append_getElem (by rw [colF_len]; exact hk)]
  simp [colF]

set_option maxHeartbeats 1000000 in
theorem s.mkColumn_any (A : Option Addr) (c B : Nat) (xs : List (List Int)) (j : Nat) (w : World) (h : LR kdL w B A c xs) (hB : B ≤ w.heap.size) (hn : xs.length ≤ 1048576) (hr : ∀ x ∈ xs, j < x.length ∧ x.length ≤ 9) :
    Calls Try.prog 36 #[.slice A xs.length c, .int .i64 j] w fun e w' => ∃ A' c', e = .returned (.slice A' xs.length c') ∧ OwnI 3 w' w.heap.size A' xs.length c' (colF xs j) ∧ Ext w w' := by
  have H := hide h
  have HR := hide hr
  have hc1 := h.1; have hc2 := h.2.1
  clear h hr
  obtain ⟨n, hn'⟩ : ∃ n, Hid (xs.length = n) := ⟨_, rfl⟩
  rw [hn'.out] at hn hc1 ⊢
  go_enter Try.func36, Try.ntmps36
  go_wp2
  go_loopw [5, 10] (fun o i wr => ∃ (k : Nat) (A' : Option Addr) (c' : Nat), k ≤ n ∧ i = .int .i64 k ∧ o = .slice A' k c' ∧ OwnI 3 wr w.heap.size A' k c' ((colF xs j).take k) ∧ Ext w wr) (fun _ i _ => n - (intOf i).toNat)
  case atStart => exact ⟨0, none, 0, Nat.zero_le _, rfl, rfl, OwnI.nil, Ext.refl w⟩
  case round =>
    obtain ⟨k, A', c', hk, rfl, rfl, hown, hx⟩ := hrel
    have HO := hide hown
    have HX := hide hx
    have q1 := hown.capn; have q2 := hown.capm
    clear hown hx
    by_cases hlt : k < n
    · obtain ⟨x, hxk⟩ : ∃ x, Hid (xs[k]? = some x) := ⟨_, List.getElem?_eq_getElem (by rw [hn'.out]; exact hlt)⟩
      obtain ⟨hjx, hx9⟩ := HR.out x (List.mem_of_getElem? hxk.out)
      obtain ⟨b, off, Ak, ck, rfl, hb, hck, hrk⟩ := H.out.row HX.out hB hxk.out
      obtain ⟨b2, off2, rfl, hb2, hc⟩ := hrk.sl.cells (by omega)
      have hcj := hc j hjx
      have HS := hide (colF_succ (j := j) hxk.out)
      have hz := hrk.1
      clear hc hrk
      generalize x.getD j 0 = y at *
      generalize x.length = m at *
      go_wp2_with (at_builtin; refine wpList_append_sl rfl (.tmp 14) (.tmp 19) rfl elem_int rfl rfl (Own.alloc HO.out _) (Sl.one wr (.int .i64 y) 3) (one_int y) ?c1 ?c2 ?c3 ?_)
      case c1 => omega
      case c2 => omega
      case c3 => have := HX.out.size; simp; omega
      intro A2 c2 w2 hap
      go_wp2
      go_roundw
      case rel => exact ⟨k + 1, A2, c2, by omega, by go_num, rfl, own_conv hap.own (Nat.le_refl _) rfl (by rw [HS.out]; simp), hap.ext (HX.out.trans (Ext.alloc _ _)) (fun p hp => Own.fromLo HO.out p hp)⟩
      case measure => simp [intOf]; omega
    · go_wp2
      go_ret
      have ek : k = n := by omega
      subst ek
      exact ⟨A', c', rfl, by have := HO.out; rwa [List.take_of_length_le (by rw [colF_len, hn'.out]; exact Nat.le_refl _)] at this, HX.out⟩
end Go.Proofs.Ytifdpmpconjhmaa
