/- The first laws' comparisons of numbers, texts, items, lists and sheets that are the same. (Printed by ki.py.) -/
import Derived.Test.YtofmfagdaiphaaaSJ
import Derived.Deep.Quiet
import Derived.Lib.QuietBelow
import Derived.Deep.DeepCutAuto
namespace Go.Proofs.Ytofmfagdaiphaaa
open Go.RowKit Go.Sort
set_option linter.unusedVariables false
set_option maxHeartbeats 1000000 in
theorem l.sameInts_sm (A A' : Option Addr) (n c c' B B' : Nat) (zs : List Int) (w : World) (h : SlI w B A n zs) (h' : SlI w B' A' n zs) (hn : n ≤ 1048576) :
    Calls Try.prog 29 #[.slice A n c, .slice A' n c'] w fun e w' => e = .returned (.bool true) ∧ Ext w w' := by
  have HL := hide h.len
  have HW := hide h
  have HW' := hide h'
  clear h h'
  have hne : ((n : Int) != (n : Int)) = false := by simp
  go_enter Try.func29, Try.ntmps29
  go_wp2
  go_loopw [13] (fun i wr => ∃ k m : Nat, k ≤ n ∧ i = .int .i64 k ∧ wr = w.drewN m) (fun i _ => n - (intOf i).toNat)
  case atStart => exact ⟨0, 0, Nat.zero_le _, rfl, rfl⟩
  case round =>
    obtain ⟨k, m, hk, rfl, rfl⟩ := hrel
    by_cases hlt : k < n
    · obtain ⟨b, off, rfl, hb, hc⟩ := HW.out.cells (by omega)
      obtain ⟨b', off', rfl, hb', hc'⟩ := HW'.out.cells (by omega)
      have hck := hc k hlt
      have hck' := hc' k hlt
      clear hc hc'
      have i1 : (k : Int) < n := by omega
      go_wp2
      go_quiet (fail)
      go_wp2
      go_roundw
      case rel => exact ⟨k + 1, m + nq, by omega, by go_num, rfl⟩
      case measure => simp [intOf]; omega
    · go_wp2
      go_ret
      exact ⟨rfl, Ext.drewN w m⟩

theorem kdL.sm (w : World) (A A' : Option Addr) (c c' : Nat) (x : List Int) (h : LR kdInt w w.heap.size A c x) (h' : LR kdInt w w.heap.size A' c' x) (hn : x.length ≤ 1048576) :
    Calls Try.prog 29 #[.slice A x.length c, .slice A' x.length c'] w fun e w' => e = .returned (.bool true) ∧ Ext w w' :=
  l.sameInts_sm _ _ _ _ _ _ _ x _ h.sl h'.sl hn

set_option maxHeartbeats 1000000 in
theorem l.pSameNames_sm (A A' : Option Addr) (c c' B B' : Nat) (xs : List (List UInt8)) (w : World) (h : LR kdS w B A c xs) (h' : LR kdS w B' A' c' xs) (hn : xs.length ≤ 1048576) :
    Calls Try.prog 67 #[.slice A xs.length c, .slice A' xs.length c'] w fun e w' => e = .returned (.bool true) ∧ Ext w w' := by
  have HW := hide h
  have HW' := hide h'
  clear h h'
  obtain ⟨n, hnd⟩ : ∃ n, Hid (xs.length = n) := ⟨_, rfl⟩
  rw [hnd.out] at hn ⊢
  have hne : ((n : Int) != (n : Int)) = false := by simp
  go_enter Try.func67, Try.ntmps67
  go_wp2
  go_loopw [13] (fun i wr => ∃ k m : Nat, k ≤ n ∧ i = .int .i64 k ∧ wr = w.drewN m) (fun i _ => n - (intOf i).toNat)
  case atStart => exact ⟨0, 0, Nat.zero_le _, rfl, rfl⟩
  case round =>
    obtain ⟨k, m, hk, rfl, rfl⟩ := hrel
    by_cases hlt : k < n
    · obtain ⟨x, hxk⟩ : ∃ x, Hid (xs[k]? = some x) := ⟨_, List.getElem?_eq_getElem (by rw [hnd.out]; exact hlt)⟩
      obtain ⟨b, off, rfl, hb, hck, -⟩ := HW.out.str k x hxk.out
      obtain ⟨b', off', rfl, hb', hck', -⟩ := HW'.out.str k x hxk.out
      have i1 : (k : Int) < n := by omega
      clear hxk
      generalize bs x = bx at *
      go_wp2
      go_quiet (fail)
      go_wp2
      go_roundw
      case rel => exact ⟨k + 1, m + nq, by omega, by go_num, rfl⟩
      case measure => simp [intOf]; omega
    · go_wp2
      go_ret
      exact ⟨rfl, Ext.drewN w m⟩
set_option maxRecDepth 100000 in
set_option maxHeartbeats 4000000 in
theorem l.pSameItems_sm (w : World) (A A' : Option Addr) (c c' B B' : Nat) (d : List ItD) (h : LR kdItem w B A c d) (h' : LR kdItem w B' A' c' d) (hB : B ≤ w.heap.size) (hB' : B' ≤ w.heap.size) (hwt : wtL kdItem d ≤ 1048576) :
    Calls Try.prog 27 #[.slice A d.length c, .slice A' d.length c'] w fun e w' => e = .returned (.bool true) ∧ Ext w w' := by
  have hlen := wtL_len kdItem d
  have HD := hide (h.more hB)
  have HD' := hide (h'.more hB')
  clear h h' hB hB'
  obtain ⟨n, hnd⟩ : ∃ n, Hid (d.length = n) := ⟨_, rfl⟩
  rw [hnd.out] at hlen ⊢
  have hn : n ≤ 1048576 := by omega
  have HW := hide hwt
  clear hwt hlen
  have hne : ((n : Int) != (n : Int)) = false := by simp
  go_enter Try.func27, Try.ntmps27
  go_wp2
  go_loopw [13] (fun i wr => ∃ (k : Nat), k ≤ n ∧ i = .int .i64 k ∧ Ext w wr) (fun i _ => n - (intOf i).toNat)
  case atStart => exact ⟨0, Nat.zero_le _, rfl, Ext.refl _⟩
  case round =>
    obtain ⟨k, hk, rfl, hx⟩ := hrel
    have HX := hide hx
    clear hx
    by_cases hlt : k < n
    · obtain ⟨x, hxk⟩ : ∃ x, Hid (d[k]? = some x) := ⟨_, List.getElem?_eq_getElem (by rw [hnd.out]; exact hlt)⟩
      obtain ⟨b, off, A1, c1, A2, c2, rfl, hb, q0, q1, q2, r1, r2⟩ := (HD.out.ext HX.out (Nat.le_refl _)).item k x hxk.out
      obtain ⟨b', off', A3, c3, A4, c4, rfl, hb', q3, q4, q5, r3, r4⟩ := (HD'.out.ext HX.out (Nat.le_refl _)).item k x hxk.out
      have hwx : kdItem.wt x ≤ 1048576 := Nat.le_trans (wtL_at kdItem d k x hxk.out) HW.out
      have hw1 : x.1.length ≤ 1048576 ∧ x.2.1.length ≤ 1048576 := by
        have h1 := kdItem.wt_eq x
        have h2 : x.1.length ≤ kdSS.wt x.1 := wtL_len kdS x.1
        have h3 : kdL.wt x.2.1 = x.2.1.length := wtL_int _
        omega
      have hb1 := Nat.lt_of_lt_of_le hb HX.out.size
      have hb2 := Nat.lt_of_lt_of_le hb' HX.out.size
      have CW := hide (fun (wq : World) (xq : Ext wr wq) => l.pSameNames_sm A1 A3 c1 c3 _ _ x.1 wq (r1.ext xq HX.out.size) (r3.ext xq HX.out.size) hw1.1)
      have CI := hide (fun (wq : World) (xq : Ext wr wq) => l.sameInts_sm A2 A4 x.2.1.length c2 c4 _ _ x.2.1 wq (r2.ext xq HX.out.size).sl (r4.ext xq HX.out.size).sl hw1.2)
      have hcw : ∀ dd os, Calls Try.prog 67 #[.slice A1 x.1.length c1, .slice A3 x.1.length c3] (grow (redrawn wr dd) os) fun e w'' => e = .returned (.bool true) ∧ ∃ p : Regrown, w'' = grow (redrawn wr p.d) p.os :=
        fun dd os => ext_regrown (CW.out _ (ext_re wr dd os))
      have hci : ∀ dd os, Calls Try.prog 29 #[.slice A2 x.2.1.length c2, .slice A4 x.2.1.length c4] (grow (redrawn wr dd) os) fun e w'' => e = .returned (.bool true) ∧ ∃ p : Regrown, w'' = grow (redrawn wr p.d) p.os :=
        fun dd os => ext_regrown (CI.out _ (ext_re wr dd os))
      have HC := hide hcw
      have HI := hide hci
      have e0 := fun dd os => cell_regrown q0 dd os
      have e1 := fun dd os => cell_regrown q1 dd os
      have e2 := fun dd os => cell_regrown q2 dd os
      have e3 := fun dd os => cell_regrown q3 dd os
      have e4 := fun dd os => cell_regrown q4 dd os
      have e5 := fun dd os => cell_regrown q5 dd os
      have i1 : (k : Int) < n := by omega
      have el : (x.2.2 != x.2.2) = false := by simp
      clear q0 q1 q2 q3 q4 q5 r1 r2 r3 r4 hcw hci hwx hw1 CW CI hxk
      generalize x.1.length = u1 at *
      generalize x.2.1.length = u2 at *
      generalize x.2.2 = u3 at *
      go_wp2
      refine wp_region_quiet_below (by kernel_rfl) (by kernel_rfl) ?_
      repeat (go_big_quiet_step (first | with_reducible exact HC.out _ _ | with_reducible exact HI.out _ _))
      refine wpQuiet_nil ?_
      intro _ hw'
      obtain ⟨⟨dq, osq⟩, hw''⟩ := hw'
      subst hw''
      have HX2 := hide (HX.out.trans (ext_re wr dq osq))
      clear e0 e1 e2 e3 e4 e5
      generalize grow (redrawn wr dq) osq = w2 at *
      go_wp2
      go_roundw
      case rel => exact ⟨k + 1, by omega, by go_num, HX2.out⟩
      case measure => simp [intOf]; omega
    · go_wp2
      go_ret
      exact ⟨rfl, HX.out⟩
set_option maxHeartbeats 1000000 in
theorem l.sameLists_sm (w : World) (A A' : Option Addr) (c c' : Nat) (d : List (List Int)) (h : LR kdL w w.heap.size A c d) (h' : LR kdL w w.heap.size A' c' d) (hn : kdLL.wt d ≤ 1048576) :
    Calls Try.prog 28 #[.slice A d.length c, .slice A' d.length c'] w fun e w' => e = .returned (.bool true) ∧ Ext w w' := by
  have hwt : wtL kdL d ≤ 1048576 := hn
  have hlen := wtL_len kdL d
  have HD := hide h
  have HD' := hide h'
  clear h h' hn
  obtain ⟨n, hnd⟩ : ∃ n, Hid (d.length = n) := ⟨_, rfl⟩
  rw [hnd.out] at hlen ⊢
  have hn : n ≤ 1048576 := by omega
  have HW := hide hwt
  clear hwt hlen
  have hne : ((n : Int) != (n : Int)) = false := by simp
  go_enter Try.func28, Try.ntmps28
  go_wp2
  go_loopw [13] (fun i wr => ∃ (k : Nat), k ≤ n ∧ i = .int .i64 k ∧ Ext w wr) (fun i _ => n - (intOf i).toNat)
  case atStart => exact ⟨0, Nat.zero_le _, rfl, Ext.refl _⟩
  case round =>
    obtain ⟨k, hk, rfl, hx⟩ := hrel
    have HX := hide hx
    clear hx
    by_cases hlt : k < n
    · obtain ⟨x, hxk⟩ : ∃ x, Hid (d[k]? = some x) := ⟨_, List.getElem?_eq_getElem (by rw [hnd.out]; exact hlt)⟩
      obtain ⟨b, off, cs, rfl, hb, ⟨Ak, ck, rfl, hrk⟩, hc⟩ := (HD.out.ext HX.out (Nat.le_refl _)).2.2 k x hxk.out
      obtain ⟨b', off', cs', rfl, hb', ⟨Ak', ck', rfl, hrk'⟩, hc'⟩ := (HD'.out.ext HX.out (Nat.le_refl _)).2.2 k x hxk.out
      have hck : wr.cell? ⟨b, off + k, none⟩ = some (.slice Ak x.length ck) := by
        have := hc 0 _ rfl
        rwa [show k * kdL.size + 0 = k from by show k * 1 + 0 = k; omega] at this
      have hck' : wr.cell? ⟨b', off' + k, none⟩ = some (.slice Ak' x.length ck') := by
        have := hc' 0 _ rfl
        rwa [show k * kdL.size + 0 = k from by show k * 1 + 0 = k; omega] at this
      have q1 := fun dd os => cell_regrown hck dd os
      have q2 := fun dd os => cell_regrown hck' dd os
      have hrd : LR kdInt wr wr.heap.size Ak ck x := hrk.more HX.out.size
      have hrd' : LR kdInt wr wr.heap.size Ak' ck' x := hrk'.more HX.out.size
      have hwx : x.length ≤ 1048576 := by
        have h1 := Nat.le_trans (wtL_at kdL d k x hxk.out) HW.out
        have h2 : kdL.wt x = x.length := wtL_int x
        omega
      have hcall : ∀ dd os, Calls Try.prog 29 #[.slice Ak x.length ck, .slice Ak' x.length ck'] (grow (redrawn wr dd) os) fun e w'' => e = .returned (.bool true) ∧ ∃ p : Regrown, w'' = grow (redrawn wr p.d) p.os :=
        fun dd os => ext_regrown (kdL.sm _ Ak Ak' ck ck' x ((hrd.ext (ext_re wr dd os) (Nat.le_refl _)).more (ext_re wr dd os).size) ((hrd'.ext (ext_re wr dd os) (Nat.le_refl _)).more (ext_re wr dd os).size) hwx)
      have HC := hide hcall
      have i1 : (k : Int) < n := by omega
      clear hc hrk hc' hrk' hcall hrd hrd' hwx
      go_wp2
      refine wp_region_quiet_below (by kernel_rfl) (by kernel_rfl) ?_
      repeat (quiet_step (exact HC.out _ _))
      refine wpQuiet_nil ?_
      intro _ hw'
      obtain ⟨⟨dq, osq⟩, hw''⟩ := hw'
      subst hw''
      have HX2 := hide (HX.out.trans (ext_re wr dq osq))
      clear q1 q2
      generalize grow (redrawn wr dq) osq = w2 at *
      go_wp2
      go_roundw
      case rel => exact ⟨k + 1, by omega, by go_num, HX2.out⟩
      case measure => simp [intOf]; omega
    · go_wp2
      go_ret
      exact ⟨rfl, HX.out⟩


set_option maxRecDepth 100000 in
set_option maxHeartbeats 8000000 in
theorem l.pSameSheet_sm (w : World) (v v' : Value) (d : ShD) (h : kSm.rd w v d) (h' : kSm.rd w v' d) (hok : kSm.ok d) :
    Calls Try.prog 9 #[v, v'] w fun e w' => e = .returned (.bool true) ∧ Ext w w' := by
  obtain ⟨A1, c1, A2, c2, A3, c3, rfl, h1, h2, h3⟩ := kSh.lr h
  obtain ⟨B1, e1, B2, e2, B3, e3, rfl, h1', h2', h3'⟩ := kSh.lr h'
  have hwt : kdSh.wt d ≤ 1048576 := hok
  rw [kdSh.wt_eq] at hwt
  have w1 : kdItS.wt d.1 = wtL kdItem d.1 := rfl
  have w2 : kdLLL.wt d.2.1 = wtL kdLL d.2.1 := rfl
  have w3 : kdRvS.wt d.2.2 = wtL kdRv d.2.2 := rfl
  have n1 := wtL_len kdItem d.1; have n2 := wtL_len kdLL d.2.1; have n3 := wtL_rv d.2.2
  obtain ⟨W0, hW0⟩ : ∃ W0, Hid (W0 = (w.alloc (.cells #[.slice A1 d.1.length c1, .slice A2 d.2.1.length c2, .slice A3 d.2.2.length c3] 28)).alloc (.cells #[.slice B1 d.1.length e1, .slice B2 d.2.1.length e2, .slice B3 d.2.2.length e3] 28)) := ⟨_, rfl⟩
  obtain ⟨p, hp⟩ : ∃ p, Hid (p = w.heap.size) := ⟨_, rfl⟩
  obtain ⟨q, hq⟩ : ∃ p, Hid (p = w.heap.size + 1) := ⟨_, rfl⟩
  have X0 : Hid (Ext w W0) := by rw [hW0.out]; exact (Ext.alloc w _).trans (Ext.alloc _ _)
  have P : Hid (Blk W0 p #[.slice A1 d.1.length c1, .slice A2 d.2.1.length c2, .slice A3 d.2.2.length c3] 28) := by rw [hW0.out, hp.out]; exact (Blk.new rfl _ _).alloc _
  have Q : Hid (Blk W0 q #[.slice B1 d.1.length e1, .slice B2 d.2.1.length e2, .slice B3 d.2.2.length e3] 28) := by rw [hW0.out, hq.out]; exact Blk.new (by simp) _ _
  have L1 := hide (h1.ext X0.out (Nat.le_refl _)); have L1' := hide (h1'.ext X0.out (Nat.le_refl _))
  have L2 := hide ((h2.ext X0.out (Nat.le_refl _)).more X0.out.size); have L2' := hide ((h2'.ext X0.out (Nat.le_refl _)).more X0.out.size)
  have L3 := hide ((h3.ext X0.out (Nat.le_refl _)).more X0.out.size); have L3' := hide ((h3'.ext X0.out (Nat.le_refl _)).more X0.out.size)
  have IT := hide (l.pSameItems_sm W0 A1 B1 c1 e1 _ _ d.1 L1.out L1'.out X0.out.size X0.out.size (by omega))
  have LW := hide (fun (k : Nat) (x : List (List Int)) (hx : d.2.1[k]? = some x) => show kdLL.wt x ≤ 1048576 from Nat.le_trans (wtL_at kdLL d.2.1 k x hx) (by omega))
  have N1 : d.1.length ≤ 1048576 := by omega
  have N2 : d.2.1.length ≤ 1048576 := by omega
  have N3 : d.2.2.length ≤ 1048576 := by omega
  clear h h' h1 h2 h3 h1' h2' h3' hok hwt w1 w2 w3 n1 n2 n3
  obtain ⟨m1, hm1⟩ : ∃ m, Hid (d.1.length = m) := ⟨_, rfl⟩
  obtain ⟨m2, hm2⟩ : ∃ m, Hid (d.2.1.length = m) := ⟨_, rfl⟩
  obtain ⟨m3, hm3⟩ : ∃ m, Hid (d.2.2.length = m) := ⟨_, rfl⟩
  rw [hm1.out] at hW0 P Q IT N1
  rw [hm2.out] at hW0 P Q N2
  rw [hm3.out] at hW0 P Q N3
  rw [hm1.out, hm2.out, hm3.out]
  have z2 : ((m2 : Int) != (m2 : Int)) = false := by simp
  have z3 : ((m3 : Int) != (m3 : Int)) = false := by simp
  go_enter Try.func9, Try.ntmps9
  go_upto_region 1 with fail
  rw [← hW0.out, ← hq.out, ← hp.out]
  clear hW0 hp hq
  have qp := P.out.cell; have qq := Q.out.cell; have lp := P.out.lt; have lq := Q.out.lt
  go_wp2_with fail
  refine IT.out.mono ?_
  rintro e w1 ⟨rfl, x1⟩
  have X1 := hide (X0.out.trans x1)
  have P1 := hide (P.out.ext x1); have Q1 := hide (Q.out.ext x1)
  have M2 := hide ((L2.out.ext x1 (Nat.le_refl _)).more x1.size); have M2' := hide ((L2'.out.ext x1 (Nat.le_refl _)).more x1.size)
  have M3 := hide ((L3.out.ext x1 (Nat.le_refl _)).more x1.size); have M3' := hide ((L3'.out.ext x1 (Nat.le_refl _)).more x1.size)
  clear x1 X0 P Q L1 L1' L2 L2' L3 L3' IT qp qq lp lq
  have qp := P1.out.cell; have qq := Q1.out.cell; have lp := P1.out.lt; have lq := Q1.out.lt
  go_wp2
  clear qp qq lp lq
  go_loopw [34] (fun i wr => ∃ (k : Nat), k ≤ m2 ∧ i = .int .i64 k ∧ Ext w1 wr) (fun i _ => m2 - (intOf i).toNat)
  case atStart => exact ⟨0, Nat.zero_le _, rfl, Ext.refl _⟩
  case round =>
    obtain ⟨k, hk, rfl, hx⟩ := hrel
    have HX := hide hx
    clear hx
    by_cases hlt : k < m2
    · as_aux_lemma =>
      obtain ⟨x, hxk⟩ : ∃ x, Hid (d.2.1[k]? = some x) := ⟨_, List.getElem?_eq_getElem (by rw [hm2.out]; exact hlt)⟩
      obtain ⟨b, off, cs, rfl, hb, ⟨Ak, ck, rfl, hrk⟩, hc⟩ := (M2.out.ext HX.out (Nat.le_refl _)).2.2 k x hxk.out
      obtain ⟨b', off', cs', rfl, hb', ⟨Ak', ck', rfl, hrk'⟩, hc'⟩ := (M2'.out.ext HX.out (Nat.le_refl _)).2.2 k x hxk.out
      have hck : wr.cell? ⟨b, off + k, none⟩ = some (.slice Ak x.length ck) := by
        have := hc 0 _ rfl
        rwa [show k * kdLL.size + 0 = k from by show k * 1 + 0 = k; omega] at this
      have hck' : wr.cell? ⟨b', off' + k, none⟩ = some (.slice Ak' x.length ck') := by
        have := hc' 0 _ rfl
        rwa [show k * kdLL.size + 0 = k from by show k * 1 + 0 = k; omega] at this
      have cap1 := hide M2.out.1; have cap2 := hide M2.out.2.1; have cap3 := hide M2'.out.1; have cap4 := hide M2'.out.2.1
      have hrd : LR kdL wr wr.heap.size Ak ck x := hrk.more HX.out.size
      have hrd' : LR kdL wr wr.heap.size Ak' ck' x := hrk'.more HX.out.size
      have HC := hide (fun (wq : World) (xq : Ext wr wq) => l.sameLists_sm wq Ak Ak' ck ck' x ((hrd.ext xq (Nat.le_refl _)).more xq.size) ((hrd'.ext xq (Nat.le_refl _)).more xq.size) (LW.out k x hxk.out))
      have qp := (P1.out.ext HX.out).cell; have qq := (Q1.out.ext HX.out).cell; have lp := (P1.out.ext HX.out).lt; have lq := (Q1.out.ext HX.out).lt
      have i1 : (k : Int) < m2 := by omega
      clear hc hrk hc' hrk' hrd hrd'
      go_wp2
      go_region_law (go_simp; go_at_call 28; refine (HC.out _ (Ext.drew _)).mono ?_; rintro e w7 ⟨rfl, x7⟩; have HX2 := hide (HX.out.trans ((Ext.drew _).trans x7)); clear x7)
      all_goals
        go_wp2
        go_roundw
        case rel => exact ⟨k + 1, by omega, by go_num, HX2.out⟩
        case measure => simp [intOf]; omega
    · have qp := (P1.out.ext HX.out).cell; have qq := (Q1.out.ext HX.out).cell; have lp := (P1.out.ext HX.out).lt; have lq := (Q1.out.ext HX.out).lt
      have R3 := hide ((M3.out.ext HX.out (Nat.le_refl _)).more HX.out.size); have R3' := hide ((M3'.out.ext HX.out (Nat.le_refl _)).more HX.out.size)
      have P2 := hide (P1.out.ext HX.out); have Q2 := hide (Q1.out.ext HX.out)
      have X2 := hide (X1.out.trans HX.out)
      go_wp2
      clear qp qq lp lq
      go_loopw [53] (fun i wq => ∃ (k : Nat), k ≤ m3 ∧ i = .int .i64 k ∧ Ext wr wq) (fun i _ => m3 - (intOf i).toNat)
      case atStart => exact ⟨0, Nat.zero_le _, rfl, Ext.refl _⟩
      case round =>
        obtain ⟨j, hj, rfl, hx⟩ := hrel
        have HY := hide hx
        clear hx
        by_cases hlj : j < m3
        · as_aux_lemma =>
          obtain ⟨x, hxk⟩ : ∃ x, Hid (d.2.2[j]? = some x) := ⟨_, List.getElem?_eq_getElem (by rw [hm3.out]; exact hlj)⟩
          obtain ⟨b, off, cs, rfl, hb, hr, hc⟩ := (R3.out.ext HY.out (Nat.le_refl _)).2.2 j x hxk.out
          obtain ⟨b', off', cs', rfl, hb', hr', hc'⟩ := (R3'.out.ext HY.out (Nat.le_refl _)).2.2 j x hxk.out
          obtain rfl := kdRv.open_ hr
          obtain rfl := kdRv.open_ hr'
          have e9 : kdRv.size = 3 := rfl
          have g0 := hc 0 _ rfl; have g1 := hc 1 _ rfl; have g2 := hc 2 _ rfl
          have k0 := hc' 0 _ rfl; have k1 := hc' 1 _ rfl; have k2 := hc' 2 _ rfl
          rw [e9] at g0 g1 g2 k0 k1 k2
          rw [Nat.add_zero] at g0 k0
          rw [← Nat.add_assoc] at g1 g2 k1 k2
          have cap1 := hide R3.out.1; have cap2 := hide R3.out.2.1; have cap3 := hide R3'.out.1; have cap4 := hide R3'.out.2.1
          have qp := (P2.out.ext HY.out).cell; have qq := (Q2.out.ext HY.out).cell; have lp := (P2.out.ext HY.out).lt; have lq := (Q2.out.ext HY.out).lt
          have i1 : (j : Int) < m3 := by omega
          clear hc hc' hr hr'
          generalize x.1 = t1 at *
          generalize x.2.1 = t2 at *
          generalize x.2.2 = t3 at *
          have z4 : (t1 != t1) = false := by simp
          have z5 : (t2 != t2) = false := by simp
          have z6 : (t3 != t3) = false := by simp
          go_wp2
          go_region_law (fail)
          all_goals
            go_wp2
            go_roundw
            case rel => exact ⟨j + 1, by omega, by go_num, HY.out.trans (Ext.drew _)⟩
            case measure => simp [intOf]; omega
        · go_wp2
          go_ret
          exact ⟨rfl, X2.out.trans HY.out⟩
end Go.Proofs.Ytofmfagdaiphaaa
