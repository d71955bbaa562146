/- Marks looked at again: in texts, items, reviews, votes, sheets. -/
import Derived.Test.YtmckompikbechaaON
namespace Go.Proofs.Ytmckompikbechaa
open Go.RowKit Go.Sort
set_option linter.unusedVariables false

set_option maxRecDepth 100000 in
set_option maxHeartbeats 2000000 in
theorem kdSS.held : HeldD Try.prog kdSS 123 := by
  rintro w vs d k ⟨A, c, hv, h⟩ hn hk0 hk1
  have hwt : wtL kdS d ≤ 1048576 := hn
  have hlen := wtL_len kdS d
  have HD : Hid (LR kdS w w.heap.size A c (mrkL kdS k d)) := h
  have hcap := h.1
  have hcm := h.2.1
  have hv' : vs = [.slice A d.length c] := by rw [hv]; show [Value.slice A (mrkL kdS k d).length c] = _; rw [mrkL_len]
  have hcap : d.length ≤ c := by rw [← mrkL_len kdS k d]; exact hcap
  subst hv'
  clear h hn hv
  show Calls _ _ #[.slice A d.length c, .int .i64 k] _ _
  have hcn : ((kdSS.cnt d : Nat) : Int) = (cntL kdS d : Nat) := rfl
  rw [hcn] at hk1 ⊢
  obtain ⟨n, hnd⟩ : ∃ n, Hid (d.length = n) := ⟨_, rfl⟩
  rw [hnd.out] at hlen hcap ⊢
  have hn : n ≤ 1048576 := by omega
  have HW := hide hwt
  clear hwt hlen hcn
  go_enter Try.func123, Try.ntmps123
  go_wp2
  go_loopw [1, 5] (fun q i wr => ∃ (j : Nat), j ≤ n ∧ i = .int .i64 j ∧ q = .int .i64 (k + (cntL kdS (d.take j) : Nat)) ∧ Ext w wr) (fun _ i _ => n - (intOf i).toNat)
  case atStart => exact ⟨0, Nat.zero_le _, rfl, by show _ = Value.int .i64 (k + ((0 : Nat) : Int)); simp, Ext.refl _⟩
  case round =>
    obtain ⟨j, hj, rfl, rfl, hx⟩ := hrel
    have HX := hide hx
    clear hx
    by_cases hlt : j < n
    · obtain ⟨x, hxj⟩ : ∃ x, Hid (d[j]? = some x) := ⟨_, List.getElem?_eq_getElem (by rw [hnd.out]; exact hlt)⟩
      have hca := cntL_at kdS d j x hxj.out
      have hcs := hide (cntL_succ kdS d j x hxj.out)
      have MA := hide (mrkL_at kdS k d j x hxj.out)
      obtain ⟨C, hC⟩ : ∃ C : Nat, Hid (cntL kdS (d.take j) = C) := ⟨_, rfl⟩
      rw [hC.out] at hca hcs MA ⊢
      obtain ⟨C9, hC9⟩ : ∃ C : Nat, Hid (cntL kdS d = C) := ⟨_, rfl⟩
      rw [hC9.out] at hca hk1
      have hc1 : C + 1 ≤ C9 := by have : kdS.cnt x = 1 := rfl; omega
      replace hcs : Hid (cntL kdS (d.take (j + 1)) = C + 1) := by have h1 := hcs.out; exact h1
      obtain ⟨b, off, rfl, hb, hck, hxl⟩ := (HD.out.ext HX.out (Nat.le_refl _)).str j _ MA.out
      have hmk : kdS.mrk (k + (C : Int)) x = markT (k + C) := rfl
      rw [hmk] at hck hxl
      obtain ⟨Kn, hKn⟩ : ∃ Kn : Nat, k + (C : Int) = Kn := ⟨(k + C).toNat, by omega⟩
      rw [hKn] at hck hxl ⊢
      have hKb : Kn ≤ 8589934592 := by omega
      have q1 := fun dd os => cell_regrown hck dd os
      have HC := hide (fun dd os => ext_regrown (l.markText_any Kn (grow (redrawn wr dd) os) hKb))
      have HKN := hide hKn
      clear hmk hxl hKn MA
      generalize bs (markT (Kn : Int)) = mb at *
      go_wp2
      refine wp_region_quiet_below (by kernel_rfl) (by kernel_rfl) ?_
      repeat (quiet_step (exact HC.out _ _))
      refine wpQuiet_nil ?_
      intro _ hw'
      obtain ⟨⟨dq, osq⟩, hw''⟩ := hw'
      subst hw''
      have HX2 := hide (HX.out.trans (ext_re wr dq osq))
      clear q1
      generalize grow (redrawn wr dq) osq = w2 at *
      go_wp2
      go_roundw
      case rel => exact ⟨j + 1, by omega, by go_num, by rw [hcs.out]; exact congrArg (Value.int .i64) (by have := HKN.out; omega), HX2.out⟩
      case measure => simp [intOf]; omega
    · go_wp2
      go_ret
      have ht : d.take j = d := List.take_of_length_le (by rw [hnd.out]; omega)
      exact ⟨ret_int (by rw [ht]), HX.out⟩

set_option maxRecDepth 100000 in
set_option maxHeartbeats 2000000 in
theorem kdItS.held : HeldD Try.prog kdItS 62 := by
  rintro w vs d k ⟨A, c, hv, h⟩ hn hk0 hk1
  have hwt : wtL kdItem d ≤ 1048576 := hn
  have hlen := wtL_len kdItem d
  have HD : Hid (LR kdItem w w.heap.size A c (mrkL kdItem k d)) := h
  have hcap := h.1
  have hcm := h.2.1
  have hv' : vs = [.slice A d.length c] := by rw [hv]; show [Value.slice A (mrkL kdItem k d).length c] = _; rw [mrkL_len]
  have hcap : d.length ≤ c := by rw [← mrkL_len kdItem k d]; exact hcap
  subst hv'
  clear h hn hv
  show Calls _ _ #[.slice A d.length c, .int .i64 k] _ _
  have hcn : ((kdItS.cnt d : Nat) : Int) = (cntL kdItem d : Nat) := rfl
  rw [hcn] at hk1 ⊢
  obtain ⟨n, hnd⟩ : ∃ n, Hid (d.length = n) := ⟨_, rfl⟩
  rw [hnd.out] at hlen hcap ⊢
  have hn : n ≤ 1048576 := by omega
  have HW := hide hwt
  clear hwt hlen hcn
  go_enter Try.func62, Try.ntmps62
  go_wp2
  go_loopw [1, 5] (fun q i wr => ∃ (j : Nat), j ≤ n ∧ i = .int .i64 j ∧ q = .int .i64 (k + (cntL kdItem (d.take j) : Nat)) ∧ Ext w wr) (fun _ i _ => n - (intOf i).toNat)
  case atStart => exact ⟨0, Nat.zero_le _, rfl, by show _ = Value.int .i64 (k + ((0 : Nat) : Int)); simp, Ext.refl _⟩
  case round =>
    obtain ⟨j, hj, rfl, rfl, hx⟩ := hrel
    have HX := hide hx
    clear hx
    by_cases hlt : j < n
    · obtain ⟨x, hxj⟩ : ∃ x, Hid (d[j]? = some x) := ⟨_, List.getElem?_eq_getElem (by rw [hnd.out]; exact hlt)⟩
      have hca := cntL_at kdItem d j x hxj.out
      have hcs := hide (cntL_succ kdItem d j x hxj.out)
      have MA := hide (mrkL_at kdItem k d j x hxj.out)
      obtain ⟨C, hC⟩ : ∃ C : Nat, Hid (cntL kdItem (d.take j) = C) := ⟨_, rfl⟩
      rw [hC.out] at hca hcs MA ⊢
      obtain ⟨C9, hC9⟩ : ∃ C : Nat, Hid (cntL kdItem d = C) := ⟨_, rfl⟩
      rw [hC9.out] at hca hk1
      have hwx : kdItem.wt x ≤ 1048576 := Nat.le_trans (wtL_at kdItem d j x hxj.out) HW.out
      rw [kdItem.wt_eq] at hwx
      have hw1 : kdSS.wt x.1 ≤ 1048576 := by omega
      have hw2 : kdL.wt x.2.1 ≤ 1048576 := by omega
      have hcx : kdItem.cnt x = kdSS.cnt x.1 + (kdL.cnt x.2.1 + 1) := rfl
      obtain ⟨b, off, A1, c1, A2, c2, rfl, hb, q0, q1, q2, r1, r2⟩ := (HD.out.ext HX.out (Nat.le_refl _)).item j _ MA.out
      have e1 : (kdItem.mrk (k + (C : Int)) x).1 = kdSS.mrk (k + C) x.1 := rfl
      have e2 : (kdItem.mrk (k + (C : Int)) x).2.1 = kdL.mrk (k + C + (kdSS.cnt x.1 : Nat)) x.2.1 := rfl
      have e3 : (kdItem.mrk (k + (C : Int)) x).2.2 = ((k + (C : Int) + (kdSS.cnt x.1 : Nat) + (kdL.cnt x.2.1 : Nat)) % 3 == 0) := rfl
      rw [e1] at q0 r1
      rw [e2] at q1 r2
      rw [e3] at q2
      clear e1 e2 e3 MA hwx
      obtain ⟨D1, hD1⟩ : ∃ D1 : Nat, Hid (kdSS.cnt x.1 = D1) := ⟨_, rfl⟩
      obtain ⟨D2, hD2⟩ : ∃ D2 : Nat, Hid (kdL.cnt x.2.1 = D2) := ⟨_, rfl⟩
      rw [hcx, hD1.out, hD2.out] at hca hcs
      rw [hD1.out] at q1 r2 q2
      rw [hD2.out] at q2
      clear hcx
      have sz := HX.out.size
      have R1 : Hid (kdSS.rd wr wr.heap.size [.slice A1 (kdSS.mrk (k + C) x.1).length c1] (kdSS.mrk (k + C) x.1)) := ⟨A1, c1, rfl, r1.more sz⟩
      have R2 : Hid (kdL.rd wr wr.heap.size [.slice A2 (kdL.mrk (k + C + D1) x.2.1).length c2] (kdL.mrk (k + C + D1) x.2.1)) := ⟨A2, c2, rfl, r2.more sz⟩
      obtain ⟨n1, hn1⟩ : ∃ n1, Hid ((kdSS.mrk (k + C) x.1).length = n1) := ⟨_, rfl⟩
      obtain ⟨n2, hn2⟩ : ∃ n2, Hid ((kdL.mrk (k + C + D1) x.2.1).length = n2) := ⟨_, rfl⟩
      rw [hn1.out] at q0 R1
      rw [hn2.out] at q1 R2
      clear r1 r2
      have hb1 : (0 : Int) ≤ k + C ∧ k + C + D1 + D2 + 1 ≤ 8589934592 := by omega
      have lb : b < wr.heap.size := by omega
      go_wp2_with fail
      refine (kdSS.held wr [.slice A1 n1 c1] x.1 (k + C) R1.out hw1 (by omega) (by rw [hD1.out]; omega)).mono ?_
      rintro e w2 ⟨rfl, x2⟩
      rw [hD1.out]
      have q1b : w2.cell? ⟨b, off + j * 3 + 1, none⟩ = some (.slice A2 n2 c2) := by rw [x2.cell lb]; exact q1
      have q2b : w2.cell? ⟨b, off + j * 3 + 2, none⟩ = some (.bool ((k + (C : Int) + (D1 : Int) + (D2 : Int)) % 3 == 0)) := by rw [x2.cell lb]; exact q2
      replace R2 := hide (kdL.rd_more (kdL.rd_ext R2.out x2 (Nat.le_refl _)) x2.size)
      replace HX := hide (HX.out.trans x2)
      have z2 := x2.size
      have p1 : ¬ (k + (C : Int) + (D1 : Int) < 0) := by omega
      clear q0 q1 q2 x2 R1
      go_wp2_with fail
      refine (kdL.held w2 [.slice A2 n2 c2] x.2.1 (k + C + D1) R2.out hw2 (by omega) (by rw [hD2.out]; omega)).mono ?_
      rintro e w3 ⟨rfl, x3⟩
      rw [hD2.out]
      have q2c : w3.cell? ⟨b, off + j * 3 + 2, none⟩ = some (.bool ((k + (C : Int) + (D1 : Int) + (D2 : Int)) % 3 == 0)) := by rw [x3.cell (by show b < _; omega)]; exact q2b
      replace HX := hide (HX.out.trans x3)
      have p2 : ¬ (k + (C : Int) + (D1 : Int) + (D2 : Int) < 0) := by omega
      clear q1b q2b x3 R2
      generalize hK3 : k + (C : Int) + (D1 : Int) + (D2 : Int) = K3 at *
      have bq : ∀ z : Bool, (z != z) = false := by simp
      have hb9 := bq (K3 % 3 == 0)
      clear bq
      go_wp2
      go_roundw
      case rel => exact ⟨j + 1, by omega, by go_num, by rw [hcs.out]; exact congrArg (Value.int .i64) (by omega), HX.out⟩
      case measure => simp [intOf]; omega
    · go_wp2
      go_ret
      have ht : d.take j = d := List.take_of_length_le (by rw [hnd.out]; omega)
      exact ⟨ret_int (by rw [ht]), HX.out⟩

set_option maxRecDepth 100000 in
set_option maxHeartbeats 2000000 in
theorem kdRvS.held : HeldD Try.prog kdRvS 64 := by
  rintro w vs d k ⟨A, c, hv, h⟩ hn hk0 hk1
  have hwt : wtL kdRv d ≤ 1048576 := hn
  have hlen := wtL_len kdRv d
  have HD : Hid (LR kdRv w w.heap.size A c (mrkL kdRv k d)) := h
  have hcap := h.1
  have hcm := h.2.1
  have hv' : vs = [.slice A d.length c] := by rw [hv]; show [Value.slice A (mrkL kdRv k d).length c] = _; rw [mrkL_len]
  have hcap : d.length ≤ c := by rw [← mrkL_len kdRv k d]; exact hcap
  subst hv'
  clear h hn hv
  show Calls _ _ #[.slice A d.length c, .int .i64 k] _ _
  have hcn : ((kdRvS.cnt d : Nat) : Int) = (cntL kdRv d : Nat) := rfl
  rw [hcn] at hk1 ⊢
  obtain ⟨n, hnd⟩ : ∃ n, Hid (d.length = n) := ⟨_, rfl⟩
  rw [hnd.out] at hlen hcap ⊢
  have hn : n ≤ 1048576 := by omega
  have HW := hide hwt
  clear hwt hlen hcn
  go_enter Try.func64, Try.ntmps64
  go_wp2
  go_loopw [1, 5] (fun q i wr => ∃ (j : Nat), j ≤ n ∧ i = .int .i64 j ∧ q = .int .i64 (k + (cntL kdRv (d.take j) : Nat)) ∧ Ext w wr) (fun _ i _ => n - (intOf i).toNat)
  case atStart => exact ⟨0, Nat.zero_le _, rfl, by show _ = Value.int .i64 (k + ((0 : Nat) : Int)); simp, Ext.refl _⟩
  case round =>
    obtain ⟨j, hj, rfl, rfl, hx⟩ := hrel
    have HX := hide hx
    clear hx
    by_cases hlt : j < n
    · obtain ⟨x, hxj⟩ : ∃ x, Hid (d[j]? = some x) := ⟨_, List.getElem?_eq_getElem (by rw [hnd.out]; exact hlt)⟩
      have hca := cntL_at kdRv d j x hxj.out
      have hcs := hide (cntL_succ kdRv d j x hxj.out)
      have MA := hide (mrkL_at kdRv k d j x hxj.out)
      obtain ⟨C, hC⟩ : ∃ C : Nat, Hid (cntL kdRv (d.take j) = C) := ⟨_, rfl⟩
      rw [hC.out] at hca hcs MA ⊢
      obtain ⟨C9, hC9⟩ : ∃ C : Nat, Hid (cntL kdRv d = C) := ⟨_, rfl⟩
      rw [hC9.out] at hca hk1
      have hcx : kdRv.cnt x = 3 := rfl
      rw [hcx] at hca hcs
      clear hcx
      obtain ⟨b, off, rfl, hb, q0, q1, q2⟩ := (HD.out.ext HX.out (Nat.le_refl _)).review j _ MA.out
      have e1 : (kdRv.mrk (k + (C : Int)) x).1 = k + C := rfl
      have e2 : (kdRv.mrk (k + (C : Int)) x).2.1 = k + C + 1 := rfl
      have e3 : (kdRv.mrk (k + (C : Int)) x).2.2 = k + C + 1 + 1 := rfl
      rw [e1] at q0
      rw [e2] at q1
      rw [e3] at q2
      clear e1 e2 e3 MA
      generalize hKC : k + (C : Int) = KC at *
      have b1 : (KC != KC) = false := by simp
      have b2 : (KC + 1 != KC + 1) = false := by simp
      have b3 : (KC + 1 + 1 != KC + 1 + 1) = false := by simp
      go_wp2
      go_roundw
      case rel => exact ⟨j + 1, by omega, by go_num, by rw [hcs.out]; exact congrArg (Value.int .i64) (by omega), HX.out⟩
      case measure => simp [intOf]; omega
    · go_wp2
      go_ret
      have ht : d.take j = d := List.take_of_length_le (by rw [hnd.out]; omega)
      exact ⟨ret_int (by rw [ht]), HX.out⟩

set_option maxRecDepth 100000 in
set_option maxHeartbeats 2000000 in
theorem kdSh.held : HeldD Try.prog kdSh 21 := by
  rintro w vs d k h hwt hk0 hk1
  obtain ⟨A, c, A', c', A'', c'', rfl, h1, h2, h3⟩ := kdSh.open_ h
  have H1 : Hid (LR kdItem w w.heap.size A c (kdItS.mrk k d.1)) := h1
  have H2 : Hid (LR kdLL w w.heap.size A' c' (kdLLL.mrk (k + kdItS.cnt d.1) d.2.1)) := h2
  have H3 : Hid (LR kdRv w w.heap.size A'' c'' (kdRvS.mrk (k + kdItS.cnt d.1 + kdLLL.cnt d.2.1) d.2.2)) := h3
  rw [kdSh.wt_eq] at hwt
  have hw1 : kdItS.wt d.1 ≤ 1048576 := by omega
  have hw2 : kdLLL.wt d.2.1 ≤ 1048576 := by omega
  have hw3 : kdRvS.wt d.2.2 ≤ 1048576 := by omega
  have hce : (kdSh.cnt d : Nat) = kdItS.cnt d.1 + (kdLLL.cnt d.2.1 + kdRvS.cnt d.2.2) := rfl
  clear h h1 h2 h3 hwt
  rw [kdSh.val3]
  obtain ⟨n, hn⟩ : ∃ n, Hid ((kdSh.mrk k d).1.length = n) := ⟨_, rfl⟩
  obtain ⟨n', hn'⟩ : ∃ n', Hid ((kdSh.mrk k d).2.1.length = n') := ⟨_, rfl⟩
  obtain ⟨m', hm'⟩ : ∃ n', Hid ((kdSh.mrk k d).2.2.length = n') := ⟨_, rfl⟩
  rw [hn.out, hn'.out, hm'.out]
  obtain ⟨C1, hC1⟩ : ∃ C1, Hid (kdItS.cnt d.1 = C1) := ⟨_, rfl⟩
  obtain ⟨C2, hC2⟩ : ∃ C2, Hid (kdLLL.cnt d.2.1 = C2) := ⟨_, rfl⟩
  obtain ⟨C3, hC3⟩ : ∃ C3, Hid (kdRvS.cnt d.2.2 = C3) := ⟨_, rfl⟩
  rw [hC1.out] at H2
  rw [hC1.out, hC2.out] at H3
  rw [hC1.out, hC2.out, hC3.out] at hce
  rw [hce] at hk1 ⊢
  clear hce
  have X0 := hide (Ext.alloc w (.cells #[.slice A n c, .slice A' n' c', .slice A'' m' c''] 28))
  have B1 := hide (Blk.new (w := w) rfl #[.slice A n c, .slice A' n' c', .slice A'' m' c''] 28)
  go_enter Try.func21, Try.ntmps21
  go_wp2_with fail
  refine (kdItS.held _ [.slice A n c] d.1 k ⟨A, c, by rw [← hn.out]; rfl, (H1.out.ext X0.out (Nat.le_refl _)).more X0.out.size⟩ hw1 hk0 (by rw [hC1.out]; omega)).mono ?_
  rintro e1 w1 ⟨rfl, hx1⟩
  rw [hC1.out]
  replace B1 := hide (B1.out.ext hx1)
  have c1_ := B1.out.cell
  have X1 := hide (X0.out.trans hx1)
  clear hx1
  have hp1 : ¬ (k + (C1 : Int) < 0) := by omega
  go_wp2_with fail
  clear c1_
  refine (kdLLL.held _ [.slice A' n' c'] d.2.1 (k + C1) ⟨A', c', by rw [← hn'.out]; show [Value.slice A' (kdLLL.mrk (k + kdItS.cnt d.1) d.2.1).length c'] = _; rw [hC1.out], (H2.out.ext X1.out (Nat.le_refl _)).more X1.out.size⟩ hw2 (by omega) (by rw [hC2.out]; omega)).mono ?_
  rintro e1 w2 ⟨rfl, hx2⟩
  rw [hC2.out]
  replace B1 := hide (B1.out.ext hx2)
  have c1_ := B1.out.cell
  have X2 := hide (X1.out.trans hx2)
  clear hx2
  have hp2 : ¬ (k + (C1 : Int) + (C2 : Int) < 0) := by omega
  go_wp2_with fail
  clear c1_
  refine (kdRvS.held _ [.slice A'' m' c''] d.2.2 (k + C1 + C2) ⟨A'', c'', by rw [← hm'.out]; show [Value.slice A'' (kdRvS.mrk (k + kdItS.cnt d.1 + kdLLL.cnt d.2.1) d.2.2).length c''] = _; rw [hC1.out, hC2.out], (H3.out.ext X2.out (Nat.le_refl _)).more X2.out.size⟩ hw3 (by omega) (by rw [hC3.out]; omega)).mono ?_
  rintro e1 w3 ⟨rfl, hx3⟩
  rw [hC3.out]
  have X3 := hide (X2.out.trans hx3)
  clear hx3
  have hp3 : ¬ (k + (C1 : Int) + (C2 : Int) + (C3 : Int) < 0) := by omega
  go_wp2
  go_ret
  exact ⟨ret_int (by omega), X3.out⟩
end Go.Proofs.Ytmckompikbechaa
