/- Items and lists of items: what the program and the reference call valid. -/
import Derived.Test.YtmckompikbechaaNQ
import Derived.Test.YtmckompikbechaaT1
namespace Go.Proofs.Ytmckompikbechaa
open Go.RowKit Go.Sort
set_option linter.unusedVariables false

theorem kdItem.wt_le {d : ItD} (h : kdItem.wt d ≤ 1048576) : d.1.length ≤ 1048576 ∧ d.2.1.length ≤ 1048576 ∧ ∀ x ∈ d.1, x.length ≤ 1048576 := by
  rw [kdItem.wt_eq] at h
  have h1 := wtL_len kdS d.1
  have h2 : kdSS.wt d.1 = wtL kdS d.1 := rfl
  have h3 : kdL.wt d.2.1 = d.2.1.length := wtL_int _
  refine ⟨by omega, by omega, fun x hx => ?_⟩
  obtain ⟨k, hk⟩ := List.getElem?_of_mem hx
  have h4 := wtL_at kdS d.1 k x hk
  have h5 : kdS.wt x = x.length := rfl
  omega

set_option maxRecDepth 100000 in
set_option maxHeartbeats 2000000 in
theorem i.IsItem_any (w : World) (vs : List Value) (d : ItD) (h : kdItem.rd w w.heap.size vs d) (hwt : kdItem.wt d ≤ 1048576) :
    Calls Try.prog 141 #[kdItem.val vs] w fun e w' => e = .returned (.bool (itemB d)) ∧ Ext w w' := by
  obtain ⟨A, c, A', c', rfl, h1, h2⟩ := kdItem.open_ h
  obtain ⟨k1, k2, k3⟩ := kdItem.wt_le hwt
  have H1 := hide h1
  have H2 := hide h2
  have K3 := hide k3
  have a1 := h1.1; have a2 := h1.2.1; have a3 := h2.1; have a4 := h2.2.1
  clear h h1 h2 k3 hwt
  rw [kdItem.val3]
  obtain ⟨R, hR⟩ : ∃ R, Hid (itemB d = R) := ⟨_, rfl⟩
  rw [hR.out]
  obtain ⟨n, hn⟩ : ∃ n, Hid (d.1.length = n) := ⟨_, rfl⟩
  obtain ⟨n', hn'⟩ : ∃ n', Hid (d.2.1.length = n') := ⟨_, rfl⟩
  obtain ⟨q, hq⟩ : ∃ q, Hid (d.2.2 = q) := ⟨_, rfl⟩
  rw [hn.out, hn'.out, hq.out]
  rw [hn.out] at k1 a1
  rw [hn'.out] at k2 a3
  obtain ⟨W0, hW0⟩ : ∃ W0, Hid (W0 = w.alloc (.cells #[.slice A n c, .slice A' n' c', .bool q] 70)) := ⟨_, rfl⟩
  have X0 : Hid (Ext w W0) := by rw [hW0.out]; exact Ext.alloc w _
  have B0 : Hid (Blk W0 w.heap.size #[.slice A n c, .slice A' n' c', .bool q] 70) := by rw [hW0.out]; exact Blk.new rfl _ _
  replace H1 := hide (H1.out.ext X0.out (Nat.le_refl _))
  replace H2 := hide (H2.out.ext X0.out (Nat.le_refl _))
  go_enter Try.func141, Try.ntmps141
  go_wp2
  rw [← hW0.out]
  clear hW0
  go_loopw [8] (fun i wr => ∃ (k : Nat), k ≤ n ∧ i = .int .i64 k ∧ (d.1.take k).all nameB = true ∧ wr = W0) (fun i _ => n - (intOf i).toNat)
  case atStart => exact ⟨0, Nat.zero_le _, rfl, rfl, rfl⟩
  case round =>
    obtain ⟨k, hk, rfl, hall, rfl⟩ := hrel
    have HA := hide hall
    clear hall
    by_cases hlt : k < n
    · obtain ⟨x, hxk⟩ : ∃ x, Hid (d.1[k]? = some x) := ⟨_, List.getElem?_eq_getElem (by rw [hn.out]; exact hlt)⟩
      obtain ⟨b, off, rfl, hb, hck, hxl⟩ := H1.out.str k x hxk.out
      have NX := hide (i.IsName_any x wr hxl)
      generalize bs x = xb at *
      clear hxl
      cases hnx : nameB x
      · have HN := hide hnx
        rw [hnx] at NX
        clear hnx
        go_wp2_with (go_at_call 160; refine NX.out.mono ?_; rintro e w' ⟨rfl, rfl⟩)
        go_ret
        exact ⟨ret_bool (by rw [← hR.out]; simp [itemB, allL_stop hxk.out HN.out]), X0.out⟩
      · have HN := hide hnx
        rw [hnx] at NX
        clear hnx
        go_wp2_with (go_at_call 160; refine NX.out.mono ?_; rintro e w' ⟨rfl, rfl⟩)
        go_roundw
        case rel => exact ⟨k + 1, by omega, by go_num, allL_step hxk.out HA.out HN.out, trivial⟩
        case measure => simp [intOf]; omega
    · have HE := hide (allL_end (by rw [hn.out]; omega) HA.out)
      have cB := B0.out.cell
      have SM := hide (i.allWithin_any A' n' c' w.heap.size d.2.1 0 3 wr (by have := H2.out.sl; rwa [hn'.out] at this) k2)
      cases hb : inB 1 3 (n : Int)
      · have HB := hide hb
        go_wp2_with (go_at_call 74; refine (i.within_any _ _ _ _).mono ?_; rintro e w' ⟨rfl, rfl⟩)
        go_ret
        exact ⟨ret_bool (by rw [← hR.out]; simp [itemB, hn.out, HB.out]), X0.out⟩
      · have HB := hide hb
        by_cases hm : n' = n
        · have b1 : ((n' : Int) == (n : Int)) = true := by simp [hm]
          have HM := hide hm
          clear hm
          generalize hall : d.2.1.all (inB 0 3) = z at *
          have HZ := hide hall
          clear hall
          go_wp2_with (first | (go_at_call 74; refine (i.within_any _ _ _ _).mono ?_; rintro e w' ⟨rfl, rfl⟩) | (go_at_call 116; refine SM.out.mono ?_; rintro e w' ⟨rfl, rfl⟩))
          go_ret
          exact ⟨ret_bool (by rw [← hR.out]; simp [itemB, HE.out, hn.out, hn'.out, HB.out, HM.out, HZ.out]), X0.out⟩
        · have b1 : ((n' : Int) == (n : Int)) = false := by rw [beq_eq_false_iff_ne]; intro h8; exact hm (by omega)
          have HM := hide b1
          clear hm
          go_wp2_with (go_at_call 74; refine (i.within_any _ _ _ _).mono ?_; rintro e w' ⟨rfl, rfl⟩)
          go_ret
          exact ⟨ret_bool (by rw [← hR.out]; simp only [itemB, hn.out, hn'.out, HM.out]; simp), X0.out⟩

set_option maxRecDepth 100000 in
set_option maxHeartbeats 2000000 in
theorem s.itGood_any (w : World) (vs : List Value) (d : ItD) (h : kdItem.rd w w.heap.size vs d) (hwt : kdItem.wt d ≤ 1048576) :
    Calls Try.prog 157 #[kdItem.val vs] w fun e w' => e = .returned (.bool (itemB d)) ∧ Ext w w' := by
  obtain ⟨A, c, A', c', rfl, h1, h2⟩ := kdItem.open_ h
  obtain ⟨k1, k2, k3⟩ := kdItem.wt_le hwt
  have H1 := hide h1
  have H2 := hide h2
  have K3 := hide k3
  have a1 := h1.1; have a2 := h1.2.1; have a3 := h2.1; have a4 := h2.2.1
  clear h h1 h2 k3 hwt
  rw [kdItem.val3]
  obtain ⟨R, hR⟩ : ∃ R, Hid (itemB d = R) := ⟨_, rfl⟩
  rw [hR.out]
  obtain ⟨n, hn⟩ : ∃ n, Hid (d.1.length = n) := ⟨_, rfl⟩
  obtain ⟨n', hn'⟩ : ∃ n', Hid (d.2.1.length = n') := ⟨_, rfl⟩
  obtain ⟨q, hq⟩ : ∃ q, Hid (d.2.2 = q) := ⟨_, rfl⟩
  rw [hn.out, hn'.out, hq.out]
  rw [hn.out] at k1 a1
  rw [hn'.out] at k2 a3
  obtain ⟨W0, hW0⟩ : ∃ W0, Hid (W0 = w.alloc (.cells #[.slice A n c, .slice A' n' c', .bool q] 70)) := ⟨_, rfl⟩
  have X0 : Hid (Ext w W0) := by rw [hW0.out]; exact Ext.alloc w _
  have B0 : Hid (Blk W0 w.heap.size #[.slice A n c, .slice A' n' c', .bool q] 70) := by rw [hW0.out]; exact Blk.new rfl _ _
  replace H1 := hide (H1.out.ext X0.out (Nat.le_refl _))
  replace H2 := hide (H2.out.ext X0.out (Nat.le_refl _))
  go_enter Try.func157, Try.ntmps157
  go_wp2
  rw [← hW0.out]
  clear hW0
  go_loopw [8] (fun i wr => ∃ (k : Nat), k ≤ n ∧ i = .int .i64 k ∧ (d.1.take k).all nameB = true ∧ wr = W0) (fun i _ => n - (intOf i).toNat)
  case atStart => exact ⟨0, Nat.zero_le _, rfl, rfl, rfl⟩
  case round =>
    obtain ⟨k, hk, rfl, hall, rfl⟩ := hrel
    have HA := hide hall
    clear hall
    by_cases hlt : k < n
    · obtain ⟨x, hxk⟩ : ∃ x, Hid (d.1[k]? = some x) := ⟨_, List.getElem?_eq_getElem (by rw [hn.out]; exact hlt)⟩
      obtain ⟨b, off, rfl, hb, hck, hxl⟩ := H1.out.str k x hxk.out
      have NX := hide (s.itName_any x wr hxl)
      generalize bs x = xb at *
      clear hxl
      cases hnx : nameB x
      · have HN := hide hnx
        rw [hnx] at NX
        clear hnx
        go_wp2_with (go_at_call 180; refine NX.out.mono ?_; rintro e w' ⟨rfl, rfl⟩)
        go_ret
        exact ⟨ret_bool (by rw [← hR.out]; simp [itemB, allL_stop hxk.out HN.out]), X0.out⟩
      · have HN := hide hnx
        rw [hnx] at NX
        clear hnx
        go_wp2_with (go_at_call 180; refine NX.out.mono ?_; rintro e w' ⟨rfl, rfl⟩)
        go_roundw
        case rel => exact ⟨k + 1, by omega, by go_num, allL_step hxk.out HA.out HN.out, trivial⟩
        case measure => simp [intOf]; omega
    · have HE := hide (allL_end (by rw [hn.out]; omega) HA.out)
      have cB := B0.out.cell
      have SM := hide (s.l1All_any A' n' c' w.heap.size d.2.1 0 3 wr (by have := H2.out.sl; rwa [hn'.out] at this) k2)
      cases hb : inB 1 3 (n : Int)
      · have HB := hide hb
        go_wp2_with (go_at_call 68; refine (s.l1In_any _ _ _ _).mono ?_; rintro e w' ⟨rfl, rfl⟩)
        go_ret
        exact ⟨ret_bool (by rw [← hR.out]; simp [itemB, hn.out, HB.out]), X0.out⟩
      · have HB := hide hb
        by_cases hm : n' = n
        · have b1 : ((n' : Int) == (n : Int)) = true := by simp [hm]
          have HM := hide hm
          clear hm
          generalize hall : d.2.1.all (inB 0 3) = z at *
          have HZ := hide hall
          clear hall
          go_wp2_with (first | (go_at_call 68; refine (s.l1In_any _ _ _ _).mono ?_; rintro e w' ⟨rfl, rfl⟩) | (go_at_call 114; refine SM.out.mono ?_; rintro e w' ⟨rfl, rfl⟩))
          go_ret
          exact ⟨ret_bool (by rw [← hR.out]; simp [itemB, HE.out, hn.out, hn'.out, HB.out, HM.out, HZ.out]), X0.out⟩
        · have b1 : ((n' : Int) == (n : Int)) = false := by rw [beq_eq_false_iff_ne]; intro h8; exact hm (by omega)
          have HM := hide b1
          clear hm
          go_wp2_with (go_at_call 68; refine (s.l1In_any _ _ _ _).mono ?_; rintro e w' ⟨rfl, rfl⟩)
          go_ret
          exact ⟨ret_bool (by rw [← hR.out]; simp only [itemB, hn.out, hn'.out, HM.out]; simp), X0.out⟩

set_option maxRecDepth 100000 in
set_option maxHeartbeats 2000000 in
theorem i.AreItems_wk (w : World) (A : Option Addr) (c B : Nat) (xs : List ItD) (h : LR kdItem w B A c xs) (hB : B ≤ w.heap.size) (hlen : xs.length ≤ 1048576) (hwt : ∀ (k : Nat) (x : ItD), xs[k]? = some x → kdItem.wt x ≤ 1048576) :
    Calls Try.prog 117 #[.slice A xs.length c] w fun e w' => e = .returned (.bool (itemsB xs)) ∧ Ext w w' := by
  have H := hide h
  have HW := hide hwt
  have a1 := h.1; have a2 := h.2.1
  obtain ⟨R, hR⟩ : ∃ R, Hid (itemsB xs = R) := ⟨_, rfl⟩
  rw [hR.out]
  obtain ⟨n, hn⟩ : ∃ n, Hid (xs.length = n) := ⟨_, rfl⟩
  rw [hn.out] at hlen a1 ⊢
  have n1 : n ≤ 1048576 := hlen
  clear h hwt hlen
  go_enter Try.func117, Try.ntmps117
  go_wp2
  go_loopw [7] (fun i wr => ∃ (k : Nat), k ≤ n ∧ i = .int .i64 k ∧ (xs.take k).all itemB = true ∧ Ext w wr) (fun i _ => n - (intOf i).toNat)
  case atStart => exact ⟨0, Nat.zero_le _, rfl, rfl, Ext.refl _⟩
  case round =>
    obtain ⟨k, hk, rfl, hall, hx⟩ := hrel
    have HA := hide hall
    have HX := hide hx
    clear hall hx
    by_cases hlt : k < n
    · obtain ⟨x, hxk⟩ : ∃ x, Hid (xs[k]? = some x) := ⟨_, List.getElem?_eq_getElem (by rw [hn.out]; exact hlt)⟩
      obtain ⟨b, off, A1, c1, A2, c2, rfl, hb, q0, q1, q2, r1, r2⟩ := (H.out.ext HX.out hB).item k x hxk.out
      have hsz := HX.out.size
      have RX := hide (kdItem.rd_more (B' := wr.heap.size) (kdItem.mk_ r1 r2) (by omega))
      clear r1 r2
      obtain ⟨W1, hW1⟩ : ∃ W1, Hid (W1 = wr.alloc (.cells #[.slice A1 x.1.length c1, .slice A2 x.2.1.length c2, .bool x.2.2] 70)) := ⟨_, rfl⟩
      have x1 : Ext wr W1 := by rw [hW1.out]; exact Ext.alloc _ _
      have IT := hide (i.IsItem_any W1 _ x (kdItem.rd_more (kdItem.rd_ext RX.out x1 (Nat.le_refl _)) x1.size) (HW.out k x hxk.out))
      replace HX := hide (HX.out.trans x1)
      clear x1 RX
      go_wp2_with fail
      rw [← hW1.out]
      clear hW1
      refine IT.out.mono ?_
      rintro e w2 ⟨rfl, x2⟩
      replace HX := hide (HX.out.trans x2)
      clear x2
      cases hb2 : itemB x
      · have HN := hide hb2
        clear hb2
        go_wp2
        go_ret
        exact ⟨ret_bool (by rw [← hR.out]; simp [itemsB, allL_stop hxk.out HN.out]), HX.out⟩
      · have HN := hide hb2
        clear hb2
        go_wp2
        go_roundw
        case rel => exact ⟨k + 1, by omega, by go_num, allL_step hxk.out HA.out HN.out, HX.out⟩
        case measure => simp [intOf]; omega
    · have HE := hide (allL_end (by rw [hn.out]; omega) HA.out)
      go_wp2
      go_ret
      exact ⟨ret_bool (by rw [← hR.out, itemsB, HE.out, hn.out]; simp), HX.out⟩
theorem i.AreItems_any (w : World) (A : Option Addr) (c B : Nat) (xs : List ItD) (h : LR kdItem w B A c xs) (hB : B ≤ w.heap.size) (hwt : wtL kdItem xs ≤ 1048576) :
    Calls Try.prog 117 #[.slice A xs.length c] w fun e w' => e = .returned (.bool (itemsB xs)) ∧ Ext w w' :=
  i.AreItems_wk w A c B xs h hB (Nat.le_trans (wtL_len kdItem xs) hwt) (fun k x hx => Nat.le_trans (wtL_at kdItem xs k x hx) hwt)

set_option maxRecDepth 100000 in
set_option maxHeartbeats 2000000 in
theorem s.itList_wk (w : World) (A : Option Addr) (c B : Nat) (xs : List ItD) (h : LR kdItem w B A c xs) (hB : B ≤ w.heap.size) (hlen : xs.length ≤ 1048576) (hwt : ∀ (k : Nat) (x : ItD), xs[k]? = some x → kdItem.wt x ≤ 1048576) :
    Calls Try.prog 113 #[.slice A xs.length c] w fun e w' => e = .returned (.bool (itemsB xs)) ∧ Ext w w' := by
  have H := hide h
  have HW := hide hwt
  have a1 := h.1; have a2 := h.2.1
  obtain ⟨R, hR⟩ : ∃ R, Hid (itemsB xs = R) := ⟨_, rfl⟩
  rw [hR.out]
  obtain ⟨n, hn⟩ : ∃ n, Hid (xs.length = n) := ⟨_, rfl⟩
  rw [hn.out] at hlen a1 ⊢
  have n1 : n ≤ 1048576 := hlen
  clear h hwt hlen
  go_enter Try.func113, Try.ntmps113
  go_wp2
  go_loopw [7] (fun i wr => ∃ (k : Nat), k ≤ n ∧ i = .int .i64 k ∧ (xs.take k).all itemB = true ∧ Ext w wr) (fun i _ => n - (intOf i).toNat)
  case atStart => exact ⟨0, Nat.zero_le _, rfl, rfl, Ext.refl _⟩
  case round =>
    obtain ⟨k, hk, rfl, hall, hx⟩ := hrel
    have HA := hide hall
    have HX := hide hx
    clear hall hx
    by_cases hlt : k < n
    · obtain ⟨x, hxk⟩ : ∃ x, Hid (xs[k]? = some x) := ⟨_, List.getElem?_eq_getElem (by rw [hn.out]; exact hlt)⟩
      obtain ⟨b, off, A1, c1, A2, c2, rfl, hb, q0, q1, q2, r1, r2⟩ := (H.out.ext HX.out hB).item k x hxk.out
      have hsz := HX.out.size
      have RX := hide (kdItem.rd_more (B' := wr.heap.size) (kdItem.mk_ r1 r2) (by omega))
      clear r1 r2
      obtain ⟨W1, hW1⟩ : ∃ W1, Hid (W1 = wr.alloc (.cells #[.slice A1 x.1.length c1, .slice A2 x.2.1.length c2, .bool x.2.2] 70)) := ⟨_, rfl⟩
      have x1 : Ext wr W1 := by rw [hW1.out]; exact Ext.alloc _ _
      have IT := hide (s.itGood_any W1 _ x (kdItem.rd_more (kdItem.rd_ext RX.out x1 (Nat.le_refl _)) x1.size) (HW.out k x hxk.out))
      replace HX := hide (HX.out.trans x1)
      clear x1 RX
      go_wp2_with fail
      rw [← hW1.out]
      clear hW1
      refine IT.out.mono ?_
      rintro e w2 ⟨rfl, x2⟩
      replace HX := hide (HX.out.trans x2)
      clear x2
      cases hb2 : itemB x
      · have HN := hide hb2
        clear hb2
        go_wp2
        go_ret
        exact ⟨ret_bool (by rw [← hR.out]; simp [itemsB, allL_stop hxk.out HN.out]), HX.out⟩
      · have HN := hide hb2
        clear hb2
        go_wp2
        go_roundw
        case rel => exact ⟨k + 1, by omega, by go_num, allL_step hxk.out HA.out HN.out, HX.out⟩
        case measure => simp [intOf]; omega
    · have HE := hide (allL_end (by rw [hn.out]; omega) HA.out)
      go_wp2
      go_ret
      exact ⟨ret_bool (by rw [← hR.out, itemsB, HE.out, hn.out]; simp), HX.out⟩
theorem s.itList_any (w : World) (A : Option Addr) (c B : Nat) (xs : List ItD) (h : LR kdItem w B A c xs) (hB : B ≤ w.heap.size) (hwt : wtL kdItem xs ≤ 1048576) :
    Calls Try.prog 113 #[.slice A xs.length c] w fun e w' => e = .returned (.bool (itemsB xs)) ∧ Ext w w' :=
  s.itList_wk w A c B xs h hB (Nat.le_trans (wtL_len kdItem xs) hwt) (fun k x hx => Nat.le_trans (wtL_at kdItem xs k x hx) hwt)
end Go.Proofs.Ytmckompikbechaa
