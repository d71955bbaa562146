/- The marks of one judge: the laws' two functions. -/
import Derived.Test.YtifdpmpconjhmaaME
import Derived.Deep.RegionHeld3
namespace Go.Proofs.Ytifdpmpconjhmaa
open Go.RowKit Go.Sort
set_option linter.unusedVariables false

def judgeMarksF (d : MD) (j : Int) : List Int × List Int × Bool := if hasJudge d j then (colF d.1 j.toNat, colF d.2 j.toNat, true) else ([], [], false)

theorem held_keep {w1 w' w'' : World} {g : Nat} {cs : Array Value} {t : TypeId} (hb : Blk w1 g cs t) (h : Hid (Ext w1 w')) (k : Ext w' w'') : (∀ i, w''.cell? ⟨g, i, none⟩ = cs[i]?) ∧ Hid (Ext w1 w'') :=
  ⟨(hb.ext (h.out.trans k)).cell, h.out.trans k⟩

/-- Two objects lie in blocks of their own. -/
def Apart (A A' : Option Addr) : Prop := ∀ p q, A = some p → A' = some q → p.block ≠ q.block
theorem Apart.symm {A A' : Option Addr} (h : Apart A A') : Apart A' A := fun p q hp hq e => h q p hq hp e.symm
section
variable {e : TypeId} {w w' : World} {lo lo' n c n' c' : Nat} {A A' : Option Addr} {vs vs' : List Value} {zs zs' : List Int}
theorem Own.keepB (h : Own e w lo A n c vs) (hk : ∀ p, A = some p → w'.heap[p.block]? = w.heap[p.block]?) : Own e w' lo A n c vs := by
  refine ⟨h.1, ?_⟩
  rcases h.2 with h | ⟨g, cap, cur, h, h1, h2, r⟩
  · exact .inl h
  · refine .inr ⟨g, cap, cur, h, h1, ?_, r⟩
    simp only [Value.slice.injEq] at h
    rw [hk _ h.1, h2]
theorem Own.raise (h : Own e w lo A n c vs) (hl : ∀ p, A = some p → lo' ≤ p.block) : Own e w lo' A n c vs := by
  refine ⟨h.1, ?_⟩
  rcases h.2 with h | ⟨g, cap, cur, h, h1, r⟩
  · exact .inl h
  · refine .inr ⟨g, cap, cur, h, ?_, r⟩
    simp only [Value.slice.injEq] at h
    exact hl _ h.1
theorem Own.lt (h : Own e w lo A n c vs) : ∀ p, A = some p → p.block < w.heap.size := by
  rintro p rfl
  rcases h.form with ⟨h, _⟩ | ⟨g, h, _, h1, _⟩
  · cases h
  · injection h with h; subst h; exact h1
/-- An append onto one leaves the other. -/
theorem Own.apd2 {A2 : Option Addr} {n2 c2 lo2 : Nat} {vs2 : List Value} (h : Own e w lo2 A2 n2 c2 vs2) (ha : Apd e w lo A w' A' n' c' vs') (hne : Apart A A2) : Own e w' lo2 A2 n2 c2 vs2 ∧ Apart A' A2 := by
  have ht := TchF.of_grown (fp := (A.map (·.block)).toList) ha.grew (fun p hp => by subst hp; simp)
  refine ⟨h.keepB fun p hp => ht.block _ (h.lt p hp) fun hm => ?_, fun p q hp hq => ?_⟩
  · cases A with
    | none => simp at hm
    | some a => simp at hm; exact hne a p rfl hp hm.symm
  · have hw := ha.where_
    subst hp
    rcases hw with hw | hw
    · cases A with
      | none => simp at hw
      | some a => simp at hw; rw [hw]; exact hne a q rfl hq
    · simp at hw
      have := h.lt q hq
      omega
theorem Blk.apd {g : Nat} {cs : Array Value} {t : TypeId} (h : Blk w g cs t) (ha : Apd e w lo A w' A' n' c' vs') (hne : ∀ p, A = some p → p.block ≠ g) : Blk w' g cs t :=
  h.tchF (TchF.of_grown (fp := (A.map (·.block)).toList) ha.grew (fun p hp => by subst hp; simp)) fun hm => by
    cases A with
    | none => simp at hm
    | some a => simp at hm; exact hne a rfl hm.symm
theorem two_own (h : OwnI e w lo A n c zs) (h' : OwnI e w lo A' n' c' zs') (hne : Apart A A') (hlo : lo ≤ w.heap.size) :
    ∃ l0 h0 l1 h1, FrI e w l0 h0 A n c zs ∧ FrI e w l1 h1 A' n' c' zs' ∧ (lo ≤ l0 ∧ lo ≤ l1 ∧ h0 ≤ w.heap.size ∧ h1 ≤ w.heap.size ∧ (h0 ≤ l1 ∨ h1 ≤ l0)) := by
  rcases A with _ | a
  · exact ⟨lo, lo, lo, w.heap.size, ⟨Own.raise h (by simp), hlo, by simp⟩, h'.fr, by omega⟩
  · rcases A' with _ | b
    · exact ⟨lo, w.heap.size, lo, lo, h.fr, ⟨Own.raise h' (by simp), hlo, by simp⟩, by omega⟩
    · have h1 := Own.lt h a rfl
      have h2 := Own.lt h' b rfl
      have h3 := Own.fromLo h a rfl
      have h4 := Own.fromLo h' b rfl
      have h5 := hne a b rfl rfl
      exact ⟨a.block, a.block + 1, b.block, b.block + 1, ⟨Own.raise h (fun p hp => by cases hp; exact Nat.le_refl _), h1, fun p hp => by cases hp; exact Nat.lt_succ_self _⟩, ⟨Own.raise h' (fun p hp => by cases hp; exact Nat.le_refl _), h2, fun p hp => by cases hp; exact Nat.lt_succ_self _⟩, by omega⟩
end
/-- What two lists of numbers among a call's results are: objects of its own, apart from each other. -/
def TwoFr (w w' : World) (v0 v1 : Value) (z0 z1 : List Int) (l0 h0 l1 h1 : Nat) : Prop :=
  kI.fr w' l0 h0 v0 z0 ∧ kI.ok z0 ∧ kI.fr w' l1 h1 v1 z1 ∧ kI.ok z1 ∧ (w.heap.size ≤ l0 ∧ w.heap.size ≤ l1 ∧ h0 ≤ w'.heap.size ∧ h1 ≤ w'.heap.size ∧ (h0 ≤ l1 ∨ h1 ≤ l0)) ∧ Ext w w'
theorem kI.fr_nil (w : World) (lo hi : Nat) (h : hi ≤ w.heap.size) : kI.fr w lo hi (.slice none 0 0) [] := ⟨none, 0, rfl, OwnI.nil, h, fun p hp => by cases hp⟩

set_option maxRecDepth 100000 in
set_option maxHeartbeats 2000000 in
theorem s.JudgeMarks_law (w : World) (v : Value) (d : MD) (z : Int) (h : kM.rd w v d) (hok : kM.ok d) (hz : InR z) :
    Calls Try.prog 18 #[v, .int .i64 z] w fun e w' => ∃ v0 v1 l0 h0 l1 h1, e = .returned (.tuple #[v0, v1, .bool (judgeMarksF d z).2.2]) ∧ TwoFr w w' v0 v1 (judgeMarksF d z).1 (judgeMarksF d z).2.1 l0 h0 l1 h1 := by
  obtain ⟨A, c, A', c', rfl, h1, h2⟩ := kM.lr h
  have HR := hide h
  have H1 := hide h1
  have H2 := hide h2
  clear h h1 h2
  obtain ⟨n, hn⟩ : ∃ n, Hid (d.1.length = n) := ⟨_, rfl⟩
  obtain ⟨n', hn'⟩ : ∃ n', Hid (d.2.length = n') := ⟨_, rfl⟩
  rw [hn.out, hn'.out] at HR ⊢
  obtain ⟨W0, hW0⟩ : ∃ W0, Hid (W0 = w.alloc (.cells #[.slice A n c, .slice A' n' c'] 25)) := ⟨_, rfl⟩
  have X0 : Hid (Ext w W0) := by rw [hW0.out]; exact Ext.alloc w _
  have B0 : Hid (Blk W0 w.heap.size #[.slice A n c, .slice A' n' c'] 25) := by rw [hW0.out]; exact Blk.new rfl _ _
  obtain ⟨F, hF⟩ : ∃ F, Hid (judgeMarksF d z = F) := ⟨_, rfl⟩
  rw [hF.out]
  go_enter Try.func18, Try.ntmps18
  go_wp2_with fail
  rw [← hW0.out]
  refine (s.mkHas_m _ _ d z (kM.rd_ext HR.out X0.out) hok).mono ?_
  rintro e w1 ⟨rfl, hx⟩
  have X1 := hide (X0.out.trans hx)
  replace B0 := hide (B0.out.ext hx)
  clear hx hW0
  have cB := B0.out.cell
  cases hm : hasJudge d z
  · have HM := hide hm
    clear hm
    go_wp2
    go_ret3
    have hf : F = ([], [], false) := by rw [← hF.out]; simp [judgeMarksF, HM.out]
    subst hf
    exact ⟨_, _, w.heap.size, w.heap.size, w.heap.size, w.heap.size, rfl, kI.fr_nil _ _ _ X1.out.size, Nat.zero_le _, kI.fr_nil _ _ _ X1.out.size, Nat.zero_le _, by have := X1.out.size; omega, X1.out⟩
  · obtain ⟨hm', k, rfl, hk⟩ := hasJudge_ok hm
    have HM := hide hm
    have r0 := rows_ok hm' hk
    have r1 := marksB_ok hm'
    have l1 : n ≤ 14 := by have := r1.1; rw [hn.out] at this; exact this
    have l2 : n' ≤ 14 := by have := r1.2.1; rw [hn'.out] at this; omega
    have hf : Hid (F = (colF d.1 k, colF d.2 k, true)) := by show _ = _; rw [← hF.out]; simp [judgeMarksF, HM.out]
    have HC1 := s.mkColumn_any A c w.heap.size d.1 k w1.drew (H1.out.ext (X1.out.trans (Ext.drew _)) (Nat.le_refl _)) X1.out.size (by rw [hn.out]; omega) r0.1
    rw [hn.out] at HC1
    have HC2 : ∀ wx, Ext w1.drew wx → Calls Try.prog 36 #[.slice A' n' c', .int .i64 k] wx fun e w' => ∃ A2 c2, e = .returned (.slice A2 n' c2) ∧ OwnI 3 w' wx.heap.size A2 n' c2 (colF d.2 k) ∧ Ext wx w' := by
      intro wx hwx
      have h9 := s.mkColumn_any A' c' w.heap.size d.2 k wx (H2.out.ext ((X1.out.trans (Ext.drew _)).trans hwx) (Nat.le_refl _)) (Nat.le_trans X1.out.size hwx.size) (by rw [hn'.out]; omega) r0.2
      rw [hn'.out] at h9
      exact h9
    replace HC1 := hide HC1
    replace HC2 := hide HC2
    clear hm hm' r0 r1 hF
    go_wp2
    go_region_held3 (fun w' => (∀ i, w'.cell? ⟨w.heap.size, i, none⟩ = #[Value.slice A n c, .slice A' n' c'][i]?) ∧ Hid (Ext w1 w')) (first | exact held_keep B0.out ((Ext.drew w1).trans x1) x2 | exact held_keep B0.out (Ext.drew w1) x1 | exact held_keep B0.out (Ext.refl w1) (Ext.drew w1))
      (first | (go_at_call 36; refine (HC2.out w2 x1).mono ?_; rintro e w3 ⟨A2, c2, rfl, o2, x2⟩) | (go_at_call 36; refine HC1.out.mono ?_; rintro e w2 ⟨A1, c1, rfl, o1, x1⟩))
    go_wp2
    go_ret3
    rw [hf.out]
    have X2 := (X1.out.trans (Ext.drew _)).trans x1
    refine ⟨.slice A1 n c1, .slice A2 n' c2, w.heap.size, w2.heap.size, w2.heap.size, w3.heap.size, rfl, ⟨A1, c1, by rw [colF_len, hn.out], ?_⟩, ?_, ⟨A2, c2, by rw [colF_len, hn'.out], ?_⟩, ?_, by have := X2.size; have := x2.size; omega, X2.trans x2⟩
    · rw [colF_len, hn.out]
      exact ((o1.lower X1.out.size).fr).tch (Tch.of_ext (lo := w2.heap.size) (hi := w2.heap.size) x2) (.inl (Nat.le_refl _))
    · show (colF d.1 k).length ≤ _; rw [colF_len, hn.out]; omega
    · rw [colF_len, hn'.out]
      exact o2.fr
    · show (colF d.2 k).length ≤ _; rw [colF_len, hn'.out]; omega


set_option maxRecDepth 100000 in
set_option maxHeartbeats 2000000 in
theorem i.JudgeMarks_law (w : World) (v : Value) (d : MD) (z : Int) (h : kM.rd w v d) (hok : kM.ok d) (hz : InR z) :
    Calls Try.prog 17 #[v, .int .i64 z] w fun e w' => ∃ v0 v1 l0 h0 l1 h1, e = .returned (.tuple #[v0, v1, .bool (judgeMarksF d z).2.2]) ∧ TwoFr w w' v0 v1 (judgeMarksF d z).1 (judgeMarksF d z).2.1 l0 h0 l1 h1 := by
  obtain ⟨A, c, A', c', rfl, h1, h2⟩ := kM.lr h
  have HR := hide h
  have H1 := hide h1
  have H2 := hide h2
  have a1 := h1.1; have a2 := h1.2.1; have a3 := h2.1; have a4 := h2.2.1
  clear h h1 h2
  obtain ⟨n, hn⟩ : ∃ n, Hid (d.1.length = n) := ⟨_, rfl⟩
  obtain ⟨n', hn'⟩ : ∃ n', Hid (d.2.length = n') := ⟨_, rfl⟩
  rw [hn.out, hn'.out] at HR ⊢
  rw [hn.out] at a1
  rw [hn'.out] at a3
  obtain ⟨W0, hW0⟩ : ∃ W0, Hid (W0 = w.alloc (.cells #[.slice A n c, .slice A' n' c'] 25)) := ⟨_, rfl⟩
  have X0 : Hid (Ext w W0) := by rw [hW0.out]; exact Ext.alloc w _
  have B0 : Hid (Blk W0 w.heap.size #[.slice A n c, .slice A' n' c'] 25) := by rw [hW0.out]; exact Blk.new rfl _ _
  obtain ⟨F, hF⟩ : ∃ F, Hid (judgeMarksF d z = F) := ⟨_, rfl⟩
  rw [hF.out]
  go_enter Try.func17, Try.ntmps17
  go_wp2_with fail
  rw [← hW0.out]
  refine (i.isJudge_m _ _ d z (kM.rd_ext HR.out X0.out) hok).mono ?_
  rintro e w1 ⟨rfl, hx⟩
  have X1 := hide (X0.out.trans hx)
  replace B0 := hide (B0.out.ext hx)
  clear hx hW0
  cases hm : hasJudge d z
  · have HM := hide hm
    clear hm
    have cB := B0.out.cell
    go_wp2
    go_ret3
    have hf : F = ([], [], false) := by rw [← hF.out]; simp [judgeMarksF, HM.out]
    subst hf
    exact ⟨_, _, w.heap.size, w.heap.size, w.heap.size, w.heap.size, rfl, kI.fr_nil _ _ _ X1.out.size, Nat.zero_le _, kI.fr_nil _ _ _ X1.out.size, Nat.zero_le _, by have := X1.out.size; omega, X1.out⟩
  · obtain ⟨hm', j, rfl, hk⟩ := hasJudge_ok hm
    have HM := hide hm
    have r0 := rows_ok hm' hk
    have r1 := marksB_ok hm'
    have l1 : n ≤ 14 := by have := r1.1; rw [hn.out] at this; exact this
    have l2 : n' ≤ 14 := by have := r1.2.1; rw [hn'.out] at this; omega
    have hf : Hid (F = (colF d.1 j, colF d.2 j, true)) := by show _ = _; rw [← hF.out]; simp [judgeMarksF, HM.out]
    have HR1 := hide r0.1
    have HR2 := hide r0.2
    clear hm hm' r0 r1 hF hk
    obtain ⟨W2, hW2⟩ : ∃ W2, Hid (W2 = (w1.alloc (.cells #[] 3)).alloc (.cells #[] 3)) := ⟨_, rfl⟩
    have x2 : Ext w1 W2 := by rw [hW2.out]; exact (Ext.alloc w1 _).trans (Ext.alloc _ _)
    have O1 : Hid (OwnI 3 W2 (w.heap.size + 1) (some ⟨w1.heap.size, 0, none⟩) 0 0 []) := by rw [hW2.out]; exact (Own.empty w1 3 B0.out.lt).alloc _
    have O2 : Hid (OwnI 3 W2 (w.heap.size + 1) (some ⟨w1.heap.size + 1, 0, none⟩) 0 0 []) := by rw [hW2.out]; exact Own.emptyAt (by simp) 3 (by have := X1.out.size; omega)
    have N0 : Hid (Apart (some ⟨w1.heap.size, 0, none⟩) (some ⟨w1.heap.size + 1, 0, none⟩)) := fun p q hp hq => by cases hp; cases hq; simp
    have X2 := hide (X1.out.trans x2)
    replace B0 := hide (B0.out.ext x2)
    clear x2
    have cB1 := B0.out.cell
    have cB0 : ∀ i, ((w1.alloc (.cells #[] 3)).alloc (.cells #[] 3)).cell? ⟨w.heap.size, i, none⟩ = #[Value.slice A n c, .slice A' n' c'][i]? := by rw [← hW2.out]; exact cB1
    go_wp2
    rw [← hW2.out]
    clear hW2 cB1 cB0
    have BL := hide (B0.out.lt)
    go_loopw [7, 22] (fun o i wr => ∃ (k : Nat) (A1 : Option Addr) (c1 : Nat), k ≤ n ∧ i = .int .i64 k ∧ o = .slice A1 k c1 ∧ OwnI 3 wr (w.heap.size + 1) A1 k c1 ((colF d.1 j).take k) ∧ OwnI 3 wr (w.heap.size + 1) (some ⟨w1.heap.size + 1, 0, none⟩) 0 0 [] ∧ Apart A1 (some ⟨w1.heap.size + 1, 0, none⟩) ∧ Blk wr w.heap.size #[Value.slice A n c, .slice A' n' c'] 25 ∧ Ext w wr) (fun _ i _ => n - (intOf i).toNat)
    case atStart => exact ⟨0, _, _, Nat.zero_le _, rfl, rfl, O1.out, O2.out, N0.out, B0.out, X2.out⟩
    case round =>
      obtain ⟨k, A1, c1, hk, rfl, rfl, hown, hown2, hap, hB, hx⟩ := hrel
      replace O1 := hide hown
      replace O2 := hide hown2
      replace N0 := hide hap
      replace B0 := hide hB
      have HX := hide hx
      have q1 := hown.capn; have q2 := hown.capm
      clear hown hown2 hap hB hx
      by_cases hlt : k < n
      · obtain ⟨x, hxk⟩ : ∃ x, Hid (d.1[k]? = some x) := ⟨_, List.getElem?_eq_getElem (by rw [hn.out]; exact hlt)⟩
        obtain ⟨hjx, hx9⟩ := HR1.out x (List.mem_of_getElem? hxk.out)
        obtain ⟨b, off, Ak, ck, rfl, hb, hck, hrk⟩ := H1.out.row HX.out (Nat.le_refl _) hxk.out
        obtain ⟨b2, off2, rfl, hb2, hc⟩ := hrk.sl.cells (by omega)
        have hcj := hc j hjx
        have HS := hide (colF_succ (j := j) hxk.out)
        have hz := hrk.1
        clear hc hrk
        generalize x.getD j 0 = y at *
        generalize x.length = m at *
        go_wp2_with (at_builtin; refine wpList_append_sl rfl (.tmp 26) (.tmp 31) rfl elem_int rfl rfl (Own.alloc O1.out _) (Sl.one wr (.int .i64 y) 3) (one_int y) ?c1 ?c2 ?c3 ?_)
        case c1 => omega
        case c2 => omega
        case c3 => have := B0.out.lt; simp; omega
        intro A2 c2 w2 hap
        have HA := hide hap
        clear hap
        go_wp2
        go_roundw
        case rel =>
          have h9 := Own.apd2 (Own.alloc O2.out _) HA.out N0.out
          exact ⟨k + 1, A2, c2, by omega, by go_num, rfl, own_conv HA.out.own (Nat.le_refl _) rfl (by rw [HS.out]; simp), h9.1, h9.2, (B0.out.alloc _).apd HA.out (fun p hp => by have := Own.fromLo O1.out p hp; omega), HA.out.ext (HX.out.trans (Ext.alloc _ _)) (fun p hp => by have := Own.fromLo O1.out p hp; omega)⟩
        case measure => simp [intOf]; omega
      · have ek : k = n := by omega
        subst ek
        replace O1 : Hid (OwnI 3 wr (w.heap.size + 1) A1 k c1 (colF d.1 j)) := by have := O1.out; rwa [List.take_of_length_le (by rw [colF_len, hn.out]; exact Nat.le_refl _)] at this
        have cB := B0.out.cell
        go_wp2
        clear cB
        go_loopw [8, 37] (fun o i wr => ∃ (k2 : Nat) (A2 : Option Addr) (c2 : Nat), k2 ≤ n' ∧ i = .int .i64 k2 ∧ o = .slice A2 k2 c2 ∧ OwnI 3 wr (w.heap.size + 1) A2 k2 c2 ((colF d.2 j).take k2) ∧ OwnI 3 wr (w.heap.size + 1) A1 k c1 (colF d.1 j) ∧ Apart A2 A1 ∧ Ext w wr) (fun _ i _ => n' - (intOf i).toNat)
        case atStart => exact ⟨0, _, _, Nat.zero_le _, rfl, rfl, O2.out, O1.out, N0.out.symm, HX.out⟩
        case round =>
          obtain ⟨k2, A2, c2, hk2, rfl, rfl, hown, hown2, hap, hx⟩ := hrel
          clear O1 O2 N0 B0 HX
          have O1 := hide hown2
          have O2 := hide hown
          have N0 := hide hap
          have HX := hide hx
          have q1 := hown.capn; have q2 := hown.capm
          clear hown hown2 hap hx
          by_cases hlt2 : k2 < n'
          · obtain ⟨x, hxk⟩ : ∃ x, Hid (d.2[k2]? = some x) := ⟨_, List.getElem?_eq_getElem (by rw [hn'.out]; exact hlt2)⟩
            obtain ⟨hjx, hx9⟩ := HR2.out x (List.mem_of_getElem? hxk.out)
            obtain ⟨b, off, Ak, ck, rfl, hb, hck, hrk⟩ := H2.out.row HX.out (Nat.le_refl _) hxk.out
            obtain ⟨b2, off2, rfl, hb2, hc⟩ := hrk.sl.cells (by omega)
            have hcj := hc j hjx
            have HS := hide (colF_succ (j := j) hxk.out)
            have hz := hrk.1
            clear hc hrk
            generalize x.getD j 0 = y at *
            generalize x.length = m at *
            have hsz := hide HX.out.size
            go_wp2_with (at_builtin; refine wpList_append_sl rfl (.tmp 41) (.tmp 46) rfl elem_int rfl rfl (Own.alloc O2.out _) (Sl.one wr (.int .i64 y) 3) (one_int y) ?c1 ?c2 ?c3 ?_)
            case c1 => omega
            case c2 => omega
            case c3 => have := hsz.out; simp; omega
            intro A3 c3 w3 hap
            have HA := hide hap
            clear hap
            go_wp2
            go_roundw
            case rel =>
              have h9 := Own.apd2 (Own.alloc O1.out _) HA.out N0.out
              exact ⟨k2 + 1, A3, c3, by omega, by go_num, rfl, own_conv HA.out.own (Nat.le_refl _) rfl (by rw [HS.out]; simp), h9.1, h9.2, HA.out.ext (HX.out.trans (Ext.alloc _ _)) (fun p hp => by have := Own.fromLo O2.out p hp; omega)⟩
            case measure => simp [intOf]; omega
          · have ek2 : k2 = n' := by omega
            subst ek2
            replace O2 : Hid (OwnI 3 wr (w.heap.size + 1) A2 k2 c2 (colF d.2 j)) := by have := O2.out; rwa [List.take_of_length_le (by rw [colF_len, hn'.out]; exact Nat.le_refl _)] at this
            go_wp2
            go_ret3
            rw [hf.out]
            obtain ⟨l0, h0, l1, h1, f0, f1, hd⟩ := two_own (O1.out.lower (Nat.le_succ _)) (O2.out.lower (Nat.le_succ _)) N0.out.symm HX.out.size
            refine ⟨.slice A1 k c1, .slice A2 k2 c2, l0, h0, l1, h1, rfl, ⟨A1, c1, by rw [colF_len, hn.out], by rw [colF_len, hn.out]; exact f0⟩, ?_, ⟨A2, c2, by rw [colF_len, hn'.out], by rw [colF_len, hn'.out]; exact f1⟩, ?_, hd, HX.out⟩
            · show (colF d.1 j).length ≤ _; rw [colF_len, hn.out]; omega
            · show (colF d.2 j).length ≤ _; rw [colF_len, hn'.out]; omega
end Go.Proofs.Ytifdpmpconjhmaa
