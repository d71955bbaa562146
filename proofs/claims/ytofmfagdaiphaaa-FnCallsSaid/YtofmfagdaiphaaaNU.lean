/- Names that are there, votes, reviews. -/
import Derived.Test.YtofmfagdaiphaaaNT
namespace Go.Proofs.Ytofmfagdaiphaaa
open Go.RowKit Go.Sort
set_option linter.unusedVariables false

theorem i.isMark_any (m : Int) (w : World) : Calls Try.prog 47 #[.int .i64 m] w fun e w' => e = .returned (.bool (inB 0 3 m)) ∧ w = w' := by
  go_enter Try.func47, Try.ntmps47
  go_wp2_with (go_at_call 48; refine (i.within_any _ _ _ _).mono ?_; rintro e w' ⟨rfl, rfl⟩)
  go_ret
  exact ⟨rfl, rfl⟩

theorem inB_nat {n : Nat} {z : Int} (h : inB 0 ((n : Int) - 1) z = true) : ∃ k : Nat, z = k ∧ k < n := by
  simp only [inB, Bool.and_eq_true, decide_eq_true_eq] at h
  exact ⟨z.toNat, by omega, by omega⟩

set_option maxRecDepth 100000 in
set_option maxHeartbeats 2000000 in
theorem i.hasNameAt_any (w : World) (A : Option Addr) (c B : Nat) (xs : List ItD) (item name : Int) (h : LR kdItem w B A c xs) (hwt : wtL kdItem xs ≤ 1048576) :
    Calls Try.prog 43 #[.slice A xs.length c, .int .i64 item, .int .i64 name] w fun e w' => e = .returned (.bool (hasName xs item name)) ∧ w = w' := by
  have H := hide h
  have HW := hide hwt
  have hlen := wtL_len kdItem xs
  have a1 := h.1; have a2 := h.2.1
  obtain ⟨R, hR⟩ : ∃ R, Hid (hasName xs item name = R) := ⟨_, rfl⟩
  rw [hR.out]
  obtain ⟨n, hn⟩ : ∃ n, Hid (xs.length = n) := ⟨_, rfl⟩
  rw [hn.out] at hlen a1 ⊢
  have n1 : n ≤ 1048576 := by omega
  clear h hwt hlen
  cases hi : inB 0 ((n : Int) - 1) item
  · have HI := hide hi
    go_enter Try.func43, Try.ntmps43
    go_wp2_with (go_at_call 48; refine (i.within_any _ _ _ _).mono ?_; rintro e w' ⟨rfl, rfl⟩)
    go_ret
    exact ⟨ret_bool (by rw [← hR.out, hasName, hn.out, HI.out]; rfl), rfl⟩
  · obtain ⟨ix, rfl, hin⟩ := inB_nat hi
    have HI := hide hi
    obtain ⟨x, hxk⟩ : ∃ x, Hid (xs[ix]? = some x) := ⟨_, List.getElem?_eq_getElem (by rw [hn.out]; exact hin)⟩
    obtain ⟨b, off, A1, c1, A2, c2, rfl, hb, q0, q1, q2, r1, r2⟩ := H.out.item ix x hxk.out
    have hx1 := (kdItem.wt_le (Nat.le_trans (wtL_at kdItem xs ix x hxk.out) HW.out)).1
    have NM := hide (namesAt_some hxk.out)
    clear q1 q2 r1 r2
    generalize hm : x.1.length = m at *
    have HM := hide hm
    clear hm
    go_enter Try.func43, Try.ntmps43
    go_wp2_with (go_at_call 48; refine (i.within_any _ _ _ _).mono ?_; rintro e w' ⟨rfl, rfl⟩)
    go_ret
    exact ⟨ret_bool (by rw [← hR.out, hasName, hn.out, HI.out, Int.toNat_natCast, NM.out, HM.out]; simp), rfl⟩

theorem rowB_at {xs : List ItD} {vs : List (List Int)} {i : Nat} {x : ItD} {v : List Int} (hx : xs[i]? = some x) (hv : vs[i]? = some v) : rowB xs vs i = (((v.length : Int) == (x.1.length : Int)) && v.all (inB (-1) 3)) := by
  unfold rowB
  rw [namesAt_some hx, List.getD_eq_getElem?_getD, hv]
  rfl
theorem wtLL_row {vs : List (List Int)} (h : wtL kdL vs ≤ 1048576) {k : Nat} {v : List Int} (hv : vs[k]? = some v) : v.length ≤ 1048576 := by
  have h1 := wtL_at kdL vs k v hv
  have h2 : kdL.wt v = v.length := wtL_int v
  omega
theorem LR.rowS {w : World} {B c : Nat} {A : Option Addr} {xs : List (List Int)} (h : LR kdL w B A c xs) (k : Nat) (x : List Int) (hx : xs[k]? = some x) :
    ∃ b off Ak ck, A = some ⟨b, off, none⟩ ∧ b < B ∧ w.cell? ⟨b, off + k, none⟩ = some (.slice Ak x.length ck) ∧ LR kdInt w B Ak ck x := by
  obtain ⟨b, off, cs, rfl, hb, ⟨Ak, ck, rfl, hrk⟩, hc⟩ := h.2.2 k x hx
  refine ⟨b, off, Ak, ck, rfl, hb, ?_, hrk⟩
  have := hc 0 _ rfl
  rwa [show k * kdL.size + 0 = k from by show k * 1 + 0 = k; omega] at this
theorem LR.voteS {w : World} {B c : Nat} {A : Option Addr} {xs : List (List (List Int))} (h : LR kdLL w B A c xs) (k : Nat) (x : List (List Int)) (hx : xs[k]? = some x) :
    ∃ b off Ak ck, A = some ⟨b, off, none⟩ ∧ b < B ∧ w.cell? ⟨b, off + k, none⟩ = some (.slice Ak x.length ck) ∧ LR kdL w B Ak ck x := by
  obtain ⟨b, off, cs, rfl, hb, ⟨Ak, ck, rfl, hrk⟩, hc⟩ := h.2.2 k x hx
  refine ⟨b, off, Ak, ck, rfl, hb, ?_, hrk⟩
  have := hc 0 _ rfl
  rwa [show k * kdLL.size + 0 = k from by show k * 1 + 0 = k; omega] at this

set_option maxRecDepth 100000 in
set_option maxHeartbeats 2000000 in
theorem s.caVotes_any (w : World) (A A' : Option Addr) (c c' B : Nat) (xs : List ItD) (vs : List (List Int)) (h : LR kdItem w B A c xs) (h' : LR kdL w B A' c' vs) (hB : B ≤ w.heap.size) (hwt : wtL kdItem xs ≤ 1048576) (hwt' : wtL kdL vs ≤ 1048576) :
    Calls Try.prog 77 #[.slice A xs.length c, .slice A' vs.length c'] w fun e w' => e = .returned (.bool (votesB xs vs)) ∧ Ext w w' := by
  have H := hide h
  have H' := hide h'
  have HW := hide hwt
  have HW' := hide hwt'
  have hlen := wtL_len kdItem xs
  have hlen' := wtL_len kdL vs
  have a1 := h.1; have a2 := h.2.1; have a3 := h'.1; have a4 := h'.2.1
  obtain ⟨R, hR⟩ : ∃ R, Hid (votesB xs vs = R) := ⟨_, rfl⟩
  rw [hR.out]
  obtain ⟨n, hn⟩ : ∃ n, Hid (xs.length = n) := ⟨_, rfl⟩
  obtain ⟨n', hn'⟩ : ∃ n', Hid (vs.length = n') := ⟨_, rfl⟩
  rw [hn.out] at hlen a1 ⊢
  rw [hn'.out] at hlen' a3 ⊢
  have n1 : n ≤ 1048576 := by omega
  have n2 : n' ≤ 1048576 := by omega
  clear h hwt hlen h' hwt' hlen'
  by_cases hne : n' = n
  · subst hne
    have b1 : ((n' : Int) != (n' : Int)) = false := by simp
    have HSTOP : Hid (∀ k, k < n' → rowB xs vs k = false → R = false) := fun k hk h8 => by rw [← hR.out, votesB, hn.out, range_stop hk h8]; simp
    have HEND : Hid ((List.range n').all (rowB xs vs) = true → R = true) := fun h8 => by rw [← hR.out, votesB, hn.out, hn'.out, h8]; simp
    go_enter Try.func77, Try.ntmps77
    go_wp2
    go_loopw [14] (fun i wr => ∃ (k : Nat), k ≤ n' ∧ i = .int .i64 k ∧ (List.range k).all (rowB xs vs) = true ∧ Ext w wr) (fun i _ => n' - (intOf i).toNat)
    case atStart => exact ⟨0, Nat.zero_le _, rfl, rfl, Ext.refl _⟩
    case round =>
      obtain ⟨k, hk, rfl, hall, hx⟩ := hrel
      have HA := hide hall
      have HX := hide hx
      clear hall hx
      by_cases hlt : k < n'
      · obtain ⟨x, hxk⟩ : ∃ x, Hid (xs[k]? = some x) := ⟨_, List.getElem?_eq_getElem (by rw [hn.out]; exact hlt)⟩
        obtain ⟨v, hvk⟩ : ∃ x, Hid (vs[k]? = some x) := ⟨_, List.getElem?_eq_getElem (by rw [hn'.out]; exact hlt)⟩
        obtain ⟨b, off, A1, c1, A2, c2, rfl, hb, q0, q1, q2, r1, r2⟩ := (H.out.ext HX.out hB).item k x hxk.out
        obtain ⟨b', off', A3, c3, rfl, hb', q3, r3⟩ := (H'.out.ext HX.out hB).rowS k v hvk.out
        have hsz := HX.out.size
        have hx1 := (kdItem.wt_le (Nat.le_trans (wtL_at kdItem xs k x hxk.out) HW.out)).1
        have hv1 := wtLL_row HW'.out hvk.out
        have y1 := r1.1; have y2 := r1.2.1; have y3 := r3.1; have y4 := r3.2.1
        have RB := hide (rowB_at hxk.out hvk.out)
        obtain ⟨W1, hW1⟩ : ∃ W1, Hid (W1 = wr.alloc (.cells #[.slice A1 x.1.length c1, .slice A2 x.2.1.length c2, .bool x.2.2] 50)) := ⟨_, rfl⟩
        have x1 : Ext wr W1 := by rw [hW1.out]; exact Ext.alloc _ _
        have q3a : W1.cell? ⟨b', off' + k, none⟩ = some (.slice A3 v.length c3) := by rw [x1.cell (by show b' < _; omega)]; exact q3
        have B1 : Blk W1 wr.heap.size #[.slice A1 x.1.length c1, .slice A2 x.2.1.length c2, .bool x.2.2] 50 := by rw [hW1.out]; exact Blk.new rfl _ _
        have AL := hide (fun nq => s.l1All_any A3 v.length c3 B v (-1) 3 (W1.drewN nq) ((r3.sl.ext (x1.trans (Ext.drewN _ nq)) (by omega))) hv1)
        replace HX := hide (HX.out.trans x1)
        have hkn : (k : Int) < n' := by omega
        clear x1 r1 r2 r3
        generalize x.1.length = m at *
        generalize v.length = m' at *
        generalize x.2.1.length = m2 at *
        generalize x.2.2 = m3 at *
        obtain ⟨av, hav⟩ : ∃ av, Hid (v.all (inB (-1) 3) = av) := ⟨_, rfl⟩
        rw [hav.out] at AL RB
        go_wp2
        rw [← hW1.out]
        have cB := B1.cell
        clear hW1 q0 q1 q2 q3 B1
        by_cases he : m' = m
        · have b2 : ((m' : Int) != (m : Int)) = false := by simp [he]
          have HE : Hid (rowB xs vs k = av) := by show _ = _; rw [RB.out]; simp [he]
          clear he RB
          go_quiet ((go_at_call 84; refine Calls.quiet_of_same ((AL.out _).mono (fun e w' h => ⟨h.1, h.2.symm⟩))))
          cases av
          · go_wp2
            go_ret
            exact ⟨ret_bool (HSTOP.out k hlt HE.out).symm, HX.out.trans (Ext.drewN _ _)⟩
          · go_wp2
            go_roundw
            case rel => exact ⟨k + 1, by omega, by go_num, range_step HA.out HE.out, HX.out.trans (Ext.drewN _ _)⟩
            case measure => simp [intOf]; omega
        · have b2 : ((m' : Int) != (m : Int)) = true := by rw [bne_iff_ne]; intro h8; exact he (by omega)
          have HE : Hid (rowB xs vs k = false) := by show _ = _; rw [RB.out, show ((m' : Int) == (m : Int)) = false from by rw [beq_eq_false_iff_ne]; intro h8; exact he (by omega)]; rfl
          clear he RB
          go_quiet (fail)
          go_wp2
          go_ret
          exact ⟨ret_bool (HSTOP.out k hlt HE.out).symm, HX.out.trans (Ext.drewN _ _)⟩
      · have ek : n' = k := by omega
        subst ek
        go_wp2
        go_ret
        exact ⟨ret_bool (HEND.out HA.out).symm, HX.out⟩
  · have b1 : ((n' : Int) != (n : Int)) = true := by rw [bne_iff_ne]; intro h8; exact hne (by omega)
    have HF : Hid (R = false) := by show _ = _; rw [← hR.out, votesB, hn.out, hn'.out, show ((n' : Int) == (n : Int)) = false from by rw [beq_eq_false_iff_ne]; intro h8; exact hne (by omega)]; rfl
    clear hne
    go_enter Try.func77, Try.ntmps77
    go_wp2
    go_ret
    exact ⟨ret_bool HF.out.symm, Ext.refl _⟩

set_option maxRecDepth 100000 in
set_option maxHeartbeats 2000000 in
theorem s.caReview_any (w : World) (A : Option Addr) (c B : Nat) (xs : List ItD) (r : RvD) (h : LR kdItem w B A c xs) (hB : B ≤ w.heap.size) (hwt : wtL kdItem xs ≤ 1048576) :
    Calls Try.prog 41 #[.slice A xs.length c, .agg #[.int .i64 r.1, .int .i64 r.2.1, .int .i64 r.2.2]] w fun e w' => e = .returned (.bool (reviewB xs r)) ∧ Ext w w' := by
  obtain ⟨item, name, mark⟩ := r
  have H := hide h
  have HW := hide hwt
  have hlen := wtL_len kdItem xs
  have a1 := h.1; have a2 := h.2.1
  obtain ⟨R, hR⟩ : ∃ R, Hid (reviewB xs (item, name, mark) = R) := ⟨_, rfl⟩
  rw [hR.out]
  obtain ⟨n, hn⟩ : ∃ n, Hid (xs.length = n) := ⟨_, rfl⟩
  rw [hn.out] at hlen a1 ⊢
  have n1 : n ≤ 1048576 := by omega
  have wn : IntKind.i64.wrap ((n : Int) - 1) = (n : Int) - 1 := IntWalk.i64_in _ (by omega)
  clear h hwt hlen
  obtain ⟨W0, hW0⟩ : ∃ W0, Hid (W0 = w.alloc (.cells #[.int .i64 item, .int .i64 name, .int .i64 mark] 30)) := ⟨_, rfl⟩
  have X0 : Ext w W0 := by rw [hW0.out]; exact Ext.alloc w _
  have B0 : Blk W0 w.heap.size #[.int .i64 item, .int .i64 name, .int .i64 mark] 30 := by rw [hW0.out]; exact Blk.new rfl _ _
  have IN := hide (fun (n lo hi : Int) (q : Nat) => s.l1In_any n lo hi (W0.drewN q))
  cases hi : inB 0 ((n : Int) - 1) item
  · have HF : Hid (R = false) := by show _ = _; rw [← hR.out, reviewB, hasName, hn.out, hi]; rfl
    have X := hide X0
    go_enter Try.func41, Try.ntmps41
    go_wp2
    rw [← hW0.out]
    have cB := B0.cell
    clear hW0 X0 B0
    go_quiet ((go_at_call 50; refine Calls.quiet_of_same ((IN.out _ _ _ _).mono (fun e w' h => ⟨by rw [h.1, hi], h.2.symm⟩))))
    go_wp2
    go_ret
    exact ⟨ret_bool HF.out.symm, X.out.trans (Ext.drewN _ _)⟩
  · obtain ⟨i, rfl, hin⟩ := inB_nat hi
    obtain ⟨x, hxk⟩ : ∃ x, Hid (xs[i]? = some x) := ⟨_, List.getElem?_eq_getElem (by rw [hn.out]; exact hin)⟩
    obtain ⟨b, off, A1, c1, A2, c2, rfl, hb, q0, q1, q2, r1, r2⟩ := (H.out.ext X0 hB).item i x hxk.out
    have hx1 := (kdItem.wt_le (Nat.le_trans (wtL_at kdItem xs i x hxk.out) HW.out)).1
    have NM := hide (namesAt_some hxk.out)
    have y1 := r1.1; have y2 := r1.2.1
    have RR : Hid (R = (inB 0 ((x.1.length : Int) - 1) name && inB 0 3 mark)) := by show _ = _; rw [← hR.out, reviewB, hasName, hn.out, hi, Int.toNat_natCast, NM.out]; simp
    have X := hide X0
    clear q1 q2 r1 r2 NM
    generalize x.1.length = m at *
    have wm : IntKind.i64.wrap ((m : Int) - 1) = (m : Int) - 1 := IntWalk.i64_in _ (by omega)
    cases hj : inB 0 ((m : Int) - 1) name
    · have HF : Hid (R = false) := by show _ = _; rw [RR.out, hj]; rfl
      go_enter Try.func41, Try.ntmps41
      go_wp2
      rw [← hW0.out]
      have cB := B0.cell
      clear hW0 X0 B0
      go_quiet ((go_at_call 50; refine Calls.quiet_of_same ((IN.out _ _ _ _).mono (fun e w' h => ⟨by first | rw [h.1, hi] | rw [h.1, hj], h.2.symm⟩))))
      go_wp2
      go_ret
      exact ⟨ret_bool HF.out.symm, X.out.trans (Ext.drewN _ _)⟩
    · have HF : Hid (R = inB 0 3 mark) := by show _ = _; rw [RR.out, hj]; simp
      go_enter Try.func41, Try.ntmps41
      go_wp2
      rw [← hW0.out]
      have cB := B0.cell
      clear hW0 X0 B0
      generalize hz : inB 0 3 mark = z at *
      go_quiet ((go_at_call 50; refine Calls.quiet_of_same ((IN.out _ _ _ _).mono (fun e w' h => ⟨by first | rw [h.1, hi] | rw [h.1, hj] | rw [h.1, hz], h.2.symm⟩))))
      go_wp2
      go_ret
      exact ⟨ret_bool HF.out.symm, X.out.trans (Ext.drewN _ _)⟩
end Go.Proofs.Ytofmfagdaiphaaa
