/- The same names. -/
import Derived.Test.YtigfhllnfgfdoaaOQ
import Derived.BigQuiet
namespace Go.Proofs.Ytigfhllnfgfdoaa
open Go.RowKit Go.Sort
set_option linter.unusedVariables false

theorem eq_of_takes {α : Type} {xs ys : List α} (hl : xs.length = ys.length) {k : Nat} (h : xs.take k = ys.take k) (hk : xs.length ≤ k) : xs = ys := by
  rwa [List.take_of_length_le hk, List.take_of_length_le (by omega)] at h

set_option maxHeartbeats 2000000 in
theorem equalS_any (w : World) (A A' : Option Addr) (c c' B : Nat) (xs ys : List (List UInt8)) (h : LR kdS w B A c xs) (h' : LR kdS w B A' c' ys) (hB : B ≤ w.heap.size) (hx : xs.length ≤ 1048576) (hy : ys.length ≤ 1048576) :
    Calls Try.prog 130 #[.slice A xs.length c, .slice A' ys.length c'] w fun e w' => e = .returned (.bool (decide (xs = ys))) ∧ Ext w w' := by
  have H := hide h
  have H' := hide h'
  have a1 := h.1; have a2 := h.2.1; have a3 := h'.1; have a4 := h'.2.1
  clear h h'
  obtain ⟨R, hR⟩ : ∃ R, Hid (decide (xs = ys) = R) := ⟨_, rfl⟩
  rw [hR.out]
  obtain ⟨n, hn⟩ : ∃ n, Hid (xs.length = n) := ⟨_, rfl⟩
  obtain ⟨m, hm⟩ : ∃ n, Hid (ys.length = n) := ⟨_, rfl⟩
  rw [hn.out] at a1 hx ⊢
  rw [hm.out] at a3 hy ⊢
  by_cases hne : n = m
  · subst hne
    have b1 : ((n : Int) != (n : Int)) = false := by simp
    go_enter Try.func130, Try.ntmps130
    go_wp2
    go_loopw [13] (fun i0 wr => ∃ (k : Nat), k ≤ n ∧ i0 = .int .i64 k ∧ xs.take k = ys.take k ∧ Ext w wr) (fun i0 _ => n - (intOf i0).toNat)
    case atStart => exact ⟨0, Nat.zero_le _, rfl, by simp, Ext.refl _⟩
    case round =>
      obtain ⟨k, hk, rfl, htk, hx9⟩ := hrel
      have HT := hide htk
      have X := hide hx9
      clear htk hx9
      by_cases hlt : k < n
      · obtain ⟨x, hxk⟩ : ∃ x, Hid (xs[k]? = some x) := ⟨_, List.getElem?_eq_getElem (by rw [hn.out]; exact hlt)⟩
        obtain ⟨y, hyk⟩ : ∃ y, Hid (ys[k]? = some y) := ⟨_, List.getElem?_eq_getElem (by rw [hm.out]; exact hlt)⟩
        obtain ⟨b, off, rfl, hb, q1, _⟩ := (H.out.ext X.out hB).str k x hxk.out
        obtain ⟨b', off', rfl, hb', q2, _⟩ := (H'.out.ext X.out hB).str k y hyk.out
        have i1 : (k : Int) < n := by omega
        by_cases e : x = y
        · subst e
          have HS : Hid (xs.take (k + 1) = ys.take (k + 1)) := by
            obtain ⟨h1, h2⟩ := List.getElem?_eq_some_iff.1 hxk.out
            obtain ⟨h3, h4⟩ := List.getElem?_eq_some_iff.1 hyk.out
            show _ = _
            rw [List.take_succ_eq_append_getElem h1, List.take_succ_eq_append_getElem h3, HT.out, h2, h4]
          generalize bs x = xb at *
          go_wp2
          go_region
          all_goals go_wp2
          all_goals go_roundw
          case rel => exact ⟨k + 1, by omega, by go_num, HS.out, X.out.trans (Ext.drew _)⟩
          case measure => simp [intOf]; omega
        · have HF : Hid (R = false) := by
            show _ = _
            rw [← hR.out, decide_eq_false_iff_not]
            rintro rfl
            exact e (by have h1 := hxk.out.symm.trans hyk.out; simpa using h1)
          have hbt : ((bs x).toList == (bs y).toList) = false := by rw [show (bs x).toList = x from Go.ByteArray.toList_mk x, show (bs y).toList = y from Go.ByteArray.toList_mk y]; simpa using e
          clear e
          generalize bs x = xb at *
          generalize bs y = yb at *
          go_wp2
          go_region
          all_goals go_wp2
          all_goals go_ret
          all_goals exact ⟨ret_bool HF.out.symm, X.out.trans (Ext.drew _)⟩
      · have HF : Hid (R = true) := by
          show _ = _
          rw [← hR.out, decide_eq_true_eq]
          exact eq_of_takes (by rw [hn.out, hm.out]) HT.out (by rw [hn.out]; omega)
        go_wp2
        go_ret
        exact ⟨ret_bool HF.out.symm, X.out⟩
  · have b1 : ((n : Int) != (m : Int)) = true := by rw [bne_iff_ne]; intro h8; exact hne (by omega)
    have HF : Hid (R = false) := by
      show _ = _
      rw [← hR.out, decide_eq_false_iff_not]
      rintro rfl
      exact hne (hn.out.symm.trans hm.out)
    clear hne
    go_enter Try.func130, Try.ntmps130
    go_wp2
    go_ret
    exact ⟨ret_bool HF.out.symm, Ext.refl _⟩

set_option maxHeartbeats 2000000 in
theorem sameS_any (w : World) (A A' : Option Addr) (c c' B : Nat) (xs ys : List (List UInt8)) (h : LR kdS w B A c xs) (h' : LR kdS w B A' c' ys) (hB : B ≤ w.heap.size) (hx : xs.length ≤ 1048576) (hy : ys.length ≤ 1048576) :
    Calls Try.prog 129 #[.slice A xs.length c, .slice A' ys.length c'] w fun e w' => e = .returned (.bool (decide (xs = ys))) ∧ Ext w w' := by
  have H := hide h
  have H' := hide h'
  have a1 := h.1; have a2 := h.2.1; have a3 := h'.1; have a4 := h'.2.1
  clear h h'
  obtain ⟨R, hR⟩ : ∃ R, Hid (decide (xs = ys) = R) := ⟨_, rfl⟩
  rw [hR.out]
  obtain ⟨n, hn⟩ : ∃ n, Hid (xs.length = n) := ⟨_, rfl⟩
  obtain ⟨m, hm⟩ : ∃ n, Hid (ys.length = n) := ⟨_, rfl⟩
  rw [hn.out] at a1 hx ⊢
  rw [hm.out] at a3 hy ⊢
  by_cases hne : n = m
  · subst hne
    have b1 : ((n : Int) != (n : Int)) = false := by simp
    go_enter Try.func129, Try.ntmps129
    go_wp2
    go_loopw [13] (fun i0 wr => ∃ (k : Nat), k ≤ n ∧ i0 = .int .i64 k ∧ xs.take k = ys.take k ∧ Ext w wr) (fun i0 _ => n - (intOf i0).toNat)
    case atStart => exact ⟨0, Nat.zero_le _, rfl, by simp, Ext.refl _⟩
    case round =>
      obtain ⟨k, hk, rfl, htk, hx9⟩ := hrel
      have HT := hide htk
      have X := hide hx9
      clear htk hx9
      by_cases hlt : k < n
      · obtain ⟨x, hxk⟩ : ∃ x, Hid (xs[k]? = some x) := ⟨_, List.getElem?_eq_getElem (by rw [hn.out]; exact hlt)⟩
        obtain ⟨y, hyk⟩ : ∃ y, Hid (ys[k]? = some y) := ⟨_, List.getElem?_eq_getElem (by rw [hm.out]; exact hlt)⟩
        obtain ⟨b, off, rfl, hb, q1, _⟩ := (H.out.ext X.out hB).str k x hxk.out
        obtain ⟨b', off', rfl, hb', q2, _⟩ := (H'.out.ext X.out hB).str k y hyk.out
        have i1 : (k : Int) < n := by omega
        by_cases e : x = y
        · subst e
          have HS : Hid (xs.take (k + 1) = ys.take (k + 1)) := by
            obtain ⟨h1, h2⟩ := List.getElem?_eq_some_iff.1 hxk.out
            obtain ⟨h3, h4⟩ := List.getElem?_eq_some_iff.1 hyk.out
            show _ = _
            rw [List.take_succ_eq_append_getElem h1, List.take_succ_eq_append_getElem h3, HT.out, h2, h4]
          generalize bs x = xb at *
          go_wp2
          go_region
          all_goals go_wp2
          all_goals go_roundw
          case rel => exact ⟨k + 1, by omega, by go_num, HS.out, X.out.trans (Ext.drew _)⟩
          case measure => simp [intOf]; omega
        · have HF : Hid (R = false) := by
            show _ = _
            rw [← hR.out, decide_eq_false_iff_not]
            rintro rfl
            exact e (by have h1 := hxk.out.symm.trans hyk.out; simpa using h1)
          have hbt : ((bs x).toList == (bs y).toList) = false := by rw [show (bs x).toList = x from Go.ByteArray.toList_mk x, show (bs y).toList = y from Go.ByteArray.toList_mk y]; simpa using e
          clear e
          generalize bs x = xb at *
          generalize bs y = yb at *
          go_wp2
          go_region
          all_goals go_wp2
          all_goals go_ret
          all_goals exact ⟨ret_bool HF.out.symm, X.out.trans (Ext.drew _)⟩
      · have HF : Hid (R = true) := by
          show _ = _
          rw [← hR.out, decide_eq_true_eq]
          exact eq_of_takes (by rw [hn.out, hm.out]) HT.out (by rw [hn.out]; omega)
        go_wp2
        go_ret
        exact ⟨ret_bool HF.out.symm, X.out⟩
  · have b1 : ((n : Int) != (m : Int)) = true := by rw [bne_iff_ne]; intro h8; exact hne (by omega)
    have HF : Hid (R = false) := by
      show _ = _
      rw [← hR.out, decide_eq_false_iff_not]
      rintro rfl
      exact hne (hn.out.symm.trans hm.out)
    clear hne
    go_enter Try.func129, Try.ntmps129
    go_wp2
    go_ret
    exact ⟨ret_bool HF.out.symm, Ext.refl _⟩

def sameB (xs ys : List ItD) : Bool := decide (xs.map (·.1) = ys.map (·.1))

set_option maxRecDepth 100000 in
set_option maxHeartbeats 2000000 in
theorem i.sameNames_any (w : World) (A A' : Option Addr) (c c' B : Nat) (xs ys : List ItD) (h : LR kdItem w B A c xs) (h' : LR kdItem w B A' c' ys) (hB : B ≤ w.heap.size) (hx : wtL kdItem xs ≤ 1048576) (hy : wtL kdItem ys ≤ 1048576) :
    Calls Try.prog 91 #[.slice A xs.length c, .slice A' ys.length c'] w fun e w' => e = .returned (.bool (sameB xs ys)) ∧ Ext w w' := by
  have H := hide h
  have H' := hide h'
  have HW := hide hx
  have HW' := hide hy
  have a1 := h.1; have a2 := h.2.1; have a3 := h'.1; have a4 := h'.2.1
  have l1 := wtL_len kdItem xs; have l2 := wtL_len kdItem ys
  clear h h'
  obtain ⟨R, hR⟩ : ∃ R, Hid (sameB xs ys = R) := ⟨_, rfl⟩
  rw [hR.out]
  obtain ⟨n, hn⟩ : ∃ n, Hid (xs.length = n) := ⟨_, rfl⟩
  obtain ⟨m, hm⟩ : ∃ n, Hid (ys.length = n) := ⟨_, rfl⟩
  rw [hn.out] at a1 l1 ⊢
  rw [hm.out] at a3 l2 ⊢
  have hx1 : n ≤ 1048576 := by omega
  have hy1 : m ≤ 1048576 := by omega
  clear hx hy l1 l2
  by_cases hne : n = m
  · subst hne
    have b1 : ((n : Int) != (n : Int)) = false := by simp
    go_enter Try.func91, Try.ntmps91
    go_wp2
    go_loopw [13] (fun i0 wr => ∃ (k : Nat), k ≤ n ∧ i0 = .int .i64 k ∧ (xs.map (·.1)).take k = (ys.map (·.1)).take k ∧ Ext w wr) (fun i0 _ => n - (intOf i0).toNat)
    case atStart => exact ⟨0, Nat.zero_le _, rfl, by simp, Ext.refl _⟩
    case round =>
      obtain ⟨k, hk, rfl, htk, hx9⟩ := hrel
      have HT := hide htk
      have X := hide hx9
      clear htk hx9
      by_cases hlt : k < n
      · obtain ⟨x, hxk⟩ : ∃ x, Hid (xs[k]? = some x) := ⟨_, List.getElem?_eq_getElem (by rw [hn.out]; exact hlt)⟩
        obtain ⟨y, hyk⟩ : ∃ y, Hid (ys[k]? = some y) := ⟨_, List.getElem?_eq_getElem (by rw [hm.out]; exact hlt)⟩
        obtain ⟨b, off, A1, c1, A2, c2, rfl, hb, q0, _, _, r1, _⟩ := (H.out.ext X.out hB).item k x hxk.out
        obtain ⟨b', off', A3, c3, A4, c4, rfl, hb', q3, _, _, r3, _⟩ := (H'.out.ext X.out hB).item k y hyk.out
        have i1 : (k : Int) < n := by omega
        have sz := X.out.size
        have w1 := (kdItem.wt_le (Nat.le_trans (wtL_at kdItem xs k x hxk.out) HW.out)).1
        have w2 := (kdItem.wt_le (Nat.le_trans (wtL_at kdItem ys k y hyk.out) HW'.out)).1
        have u0 := fun dd os => cell_regrown q0 dd os
        have u3 := fun dd os => cell_regrown q3 dd os
        have HC := hide (fun dd os => ext_regrown (equalS_any (grow (redrawn wr dd) os) A1 A3 c1 c3 B x.1 y.1 (r1.ext (ext_re wr dd os) (by omega)) (r3.ext (ext_re wr dd os) (by omega)) (by have := (ext_re wr dd os).size; omega) w1 w2))
        have HS : Hid (x.1 = y.1 → (xs.map (·.1)).take (k + 1) = (ys.map (·.1)).take (k + 1)) := fun e => by
          obtain ⟨h1, h2⟩ := List.getElem?_eq_some_iff.1 hxk.out
          obtain ⟨h3, h4⟩ := List.getElem?_eq_some_iff.1 hyk.out
          rw [List.take_succ_eq_append_getElem (by simpa using h1), List.take_succ_eq_append_getElem (by simpa using h3), HT.out, List.getElem_map, List.getElem_map, h2, h4, e]
        have HN : Hid (¬ x.1 = y.1 → R = false) := fun e => by
          rw [← hR.out, sameB, decide_eq_false_iff_not]
          intro h8
          have h9 := congrArg (fun l => l[k]?) h8
          simp only [List.getElem?_map, hxk.out, hyk.out, Option.map_some, Option.some.injEq] at h9
          exact e h9
        obtain ⟨sb, hsb⟩ : ∃ sb, Hid (decide (x.1 = y.1) = sb) := ⟨_, rfl⟩
        rw [hsb.out] at HC
        clear r1 r3 w1 w2
        generalize x.1.length = m1 at *
        generalize y.1.length = m2 at *
        go_wp2
        refine wp_region_quiet_below (by kernel_rfl) (by kernel_rfl) ?_
        repeat (quiet_step (exact HC.out _ _))
        refine wpQuiet_nil ?_
        intro _ hw'
        obtain ⟨⟨dq, osq⟩, hw''⟩ := hw'
        subst hw''
        have HX2 := hide (X.out.trans (ext_re wr dq osq))
        clear u0 u3
        generalize grow (redrawn wr dq) osq = w2 at *
        cases sb
        · have HF := hide (HN.out (by simpa using hsb.out))
          go_wp2
          go_ret
          exact ⟨ret_bool HF.out.symm, HX2.out⟩
        · have HF := hide (HS.out (by simpa using hsb.out))
          go_wp2
          go_roundw
          case rel => exact ⟨k + 1, by omega, by go_num, HF.out, HX2.out⟩
          case measure => simp [intOf]; omega
      · have HF : Hid (R = true) := by
          show _ = _
          rw [← hR.out, sameB, decide_eq_true_eq]
          exact eq_of_takes (by simp [hn.out, hm.out]) HT.out (by simp [hn.out]; omega)
        go_wp2
        go_ret
        exact ⟨ret_bool HF.out.symm, X.out⟩
  · have b1 : ((n : Int) != (m : Int)) = true := by rw [bne_iff_ne]; intro h8; exact hne (by omega)
    have HF : Hid (R = false) := by
      show _ = _
      rw [← hR.out, sameB, decide_eq_false_iff_not]
      intro h8
      have h9 := congrArg List.length h8
      simp [hn.out, hm.out] at h9
      exact hne h9
    clear hne
    go_enter Try.func91, Try.ntmps91
    go_wp2
    go_ret
    exact ⟨ret_bool HF.out.symm, Ext.refl _⟩

set_option maxRecDepth 100000 in
set_option maxHeartbeats 2000000 in
theorem s.itSame_any (w : World) (A A' : Option Addr) (c c' B : Nat) (xs ys : List ItD) (h : LR kdItem w B A c xs) (h' : LR kdItem w B A' c' ys) (hB : B ≤ w.heap.size) (hx : wtL kdItem xs ≤ 1048576) (hy : wtL kdItem ys ≤ 1048576) :
    Calls Try.prog 90 #[.slice A xs.length c, .slice A' ys.length c'] w fun e w' => e = .returned (.bool (sameB xs ys)) ∧ Ext w w' := by
  have H := hide h
  have H' := hide h'
  have HW := hide hx
  have HW' := hide hy
  have a1 := h.1; have a2 := h.2.1; have a3 := h'.1; have a4 := h'.2.1
  have l1 := wtL_len kdItem xs; have l2 := wtL_len kdItem ys
  clear h h'
  obtain ⟨R, hR⟩ : ∃ R, Hid (sameB xs ys = R) := ⟨_, rfl⟩
  rw [hR.out]
  obtain ⟨n, hn⟩ : ∃ n, Hid (xs.length = n) := ⟨_, rfl⟩
  obtain ⟨m, hm⟩ : ∃ n, Hid (ys.length = n) := ⟨_, rfl⟩
  rw [hn.out] at a1 l1 ⊢
  rw [hm.out] at a3 l2 ⊢
  have hx1 : n ≤ 1048576 := by omega
  have hy1 : m ≤ 1048576 := by omega
  clear hx hy l1 l2
  by_cases hne : n = m
  · subst hne
    have b1 : ((n : Int) != (n : Int)) = false := by simp
    go_enter Try.func90, Try.ntmps90
    go_wp2
    go_loopw [13] (fun i0 wr => ∃ (k : Nat), k ≤ n ∧ i0 = .int .i64 k ∧ (xs.map (·.1)).take k = (ys.map (·.1)).take k ∧ Ext w wr) (fun i0 _ => n - (intOf i0).toNat)
    case atStart => exact ⟨0, Nat.zero_le _, rfl, by simp, Ext.refl _⟩
    case round =>
      obtain ⟨k, hk, rfl, htk, hx9⟩ := hrel
      have HT := hide htk
      have X := hide hx9
      clear htk hx9
      by_cases hlt : k < n
      · obtain ⟨x, hxk⟩ : ∃ x, Hid (xs[k]? = some x) := ⟨_, List.getElem?_eq_getElem (by rw [hn.out]; exact hlt)⟩
        obtain ⟨y, hyk⟩ : ∃ y, Hid (ys[k]? = some y) := ⟨_, List.getElem?_eq_getElem (by rw [hm.out]; exact hlt)⟩
        obtain ⟨b, off, A1, c1, A2, c2, rfl, hb, q0, _, _, r1, _⟩ := (H.out.ext X.out hB).item k x hxk.out
        obtain ⟨b', off', A3, c3, A4, c4, rfl, hb', q3, _, _, r3, _⟩ := (H'.out.ext X.out hB).item k y hyk.out
        have i1 : (k : Int) < n := by omega
        have sz := X.out.size
        have w1 := (kdItem.wt_le (Nat.le_trans (wtL_at kdItem xs k x hxk.out) HW.out)).1
        have w2 := (kdItem.wt_le (Nat.le_trans (wtL_at kdItem ys k y hyk.out) HW'.out)).1
        have u0 := fun dd os => cell_regrown q0 dd os
        have u3 := fun dd os => cell_regrown q3 dd os
        have HC := hide (fun dd os => ext_regrown (sameS_any (grow (redrawn wr dd) os) A1 A3 c1 c3 B x.1 y.1 (r1.ext (ext_re wr dd os) (by omega)) (r3.ext (ext_re wr dd os) (by omega)) (by have := (ext_re wr dd os).size; omega) w1 w2))
        have HS : Hid (x.1 = y.1 → (xs.map (·.1)).take (k + 1) = (ys.map (·.1)).take (k + 1)) := fun e => by
          obtain ⟨h1, h2⟩ := List.getElem?_eq_some_iff.1 hxk.out
          obtain ⟨h3, h4⟩ := List.getElem?_eq_some_iff.1 hyk.out
          rw [List.take_succ_eq_append_getElem (by simpa using h1), List.take_succ_eq_append_getElem (by simpa using h3), HT.out, List.getElem_map, List.getElem_map, h2, h4, e]
        have HN : Hid (¬ x.1 = y.1 → R = false) := fun e => by
          rw [← hR.out, sameB, decide_eq_false_iff_not]
          intro h8
          have h9 := congrArg (fun l => l[k]?) h8
          simp only [List.getElem?_map, hxk.out, hyk.out, Option.map_some, Option.some.injEq] at h9
          exact e h9
        obtain ⟨sb, hsb⟩ : ∃ sb, Hid (decide (x.1 = y.1) = sb) := ⟨_, rfl⟩
        rw [hsb.out] at HC
        clear r1 r3 w1 w2
        generalize x.1.length = m1 at *
        generalize y.1.length = m2 at *
        go_wp2
        refine wp_region_quiet_below (by kernel_rfl) (by kernel_rfl) ?_
        repeat (quiet_step (exact HC.out _ _))
        refine wpQuiet_nil ?_
        intro _ hw'
        obtain ⟨⟨dq, osq⟩, hw''⟩ := hw'
        subst hw''
        have HX2 := hide (X.out.trans (ext_re wr dq osq))
        clear u0 u3
        generalize grow (redrawn wr dq) osq = w2 at *
        cases sb
        · have HF := hide (HN.out (by simpa using hsb.out))
          go_wp2
          go_ret
          exact ⟨ret_bool HF.out.symm, HX2.out⟩
        · have HF := hide (HS.out (by simpa using hsb.out))
          go_wp2
          go_roundw
          case rel => exact ⟨k + 1, by omega, by go_num, HF.out, HX2.out⟩
          case measure => simp [intOf]; omega
      · have HF : Hid (R = true) := by
          show _ = _
          rw [← hR.out, sameB, decide_eq_true_eq]
          exact eq_of_takes (by simp [hn.out, hm.out]) HT.out (by simp [hn.out]; omega)
        go_wp2
        go_ret
        exact ⟨ret_bool HF.out.symm, X.out⟩
  · have b1 : ((n : Int) != (m : Int)) = true := by rw [bne_iff_ne]; intro h8; exact hne (by omega)
    have HF : Hid (R = false) := by
      show _ = _
      rw [← hR.out, sameB, decide_eq_false_iff_not]
      intro h8
      have h9 := congrArg List.length h8
      simp [hn.out, hm.out] at h9
      exact hne h9
    clear hne
    go_enter Try.func90, Try.ntmps90
    go_wp2
    go_ret
    exact ⟨ret_bool HF.out.symm, Ext.refl _⟩
end Go.Proofs.Ytigfhllnfgfdoaa
