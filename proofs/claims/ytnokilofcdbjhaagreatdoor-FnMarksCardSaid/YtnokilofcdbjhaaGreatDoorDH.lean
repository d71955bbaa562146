/- The laws' comparisons of numbers, lists and marks that are the same. -/
import Derived.Test.YtnokilofcdbjhaaGreatDoorGD
import Derived.Test.YtnokilofcdbjhaaGreatDoorES
namespace Go.Proofs.YtnokilofcdbjhaaGreatDoor
open Go.RowKit Go.Sort
set_option linter.unusedVariables false

set_option maxHeartbeats 1000000 in
theorem l.qLists_same (w : World) (A A' : Option Addr) (c c' : Nat) (d : List (List Int)) (h : LR kdL w w.heap.size A c d) (h' : LR kdL w w.heap.size A' c' d) (hn : kdLL.wt d ≤ 1048576) :
    Calls Tryz.prog 51 #[.slice A d.length c, .slice A' d.length c'] w fun e w' => e = .returned (.bool true) ∧ Ext w w' := by
  have hwt : wtL kdL d ≤ 1048576 := hn
  have hlen := wtL_len kdL d
  have HD := hide h
  have HD' := hide h'
  clear h h' hn
  obtain ⟨n, hnd⟩ : ∃ n, Hid (d.length = n) := ⟨_, rfl⟩
  rw [hnd.out] at hlen ⊢
  have hn : n ≤ 1048576 := by omega
  have HW := hide hwt
  clear hwt hlen
  have hne : ((n : Int) != (n : Int)) = false := by simp
  go_enter Tryz.func51, Tryz.ntmps51
  go_wp2
  go_loopw [13] (fun i wr => ∃ (k : Nat), k ≤ n ∧ i = .int .i64 k ∧ Ext w wr) (fun i _ => n - (intOf i).toNat)
  case atStart => exact ⟨0, Nat.zero_le _, rfl, Ext.refl _⟩
  case round =>
    obtain ⟨k, hk, rfl, hx⟩ := hrel
    have HX := hide hx
    clear hx
    by_cases hlt : k < n
    · obtain ⟨x, hxk⟩ : ∃ x, Hid (d[k]? = some x) := ⟨_, List.getElem?_eq_getElem (by rw [hnd.out]; exact hlt)⟩
      obtain ⟨b, off, cs, rfl, hb, ⟨Ak, ck, rfl, hrk⟩, hc⟩ := (HD.out.ext HX.out (Nat.le_refl _)).2.2 k x hxk.out
      obtain ⟨b', off', cs', rfl, hb', ⟨Ak', ck', rfl, hrk'⟩, hc'⟩ := (HD'.out.ext HX.out (Nat.le_refl _)).2.2 k x hxk.out
      have hck : wr.cell? ⟨b, off + k, none⟩ = some (.slice Ak x.length ck) := by
        have := hc 0 _ rfl
        rwa [show k * kdL.size + 0 = k from by show k * 1 + 0 = k; omega] at this
      have hck' : wr.cell? ⟨b', off' + k, none⟩ = some (.slice Ak' x.length ck') := by
        have := hc' 0 _ rfl
        rwa [show k * kdL.size + 0 = k from by show k * 1 + 0 = k; omega] at this
      have q1 := fun dd os => cell_regrown hck dd os
      have q2 := fun dd os => cell_regrown hck' dd os
      have hrd : LR kdInt wr wr.heap.size Ak ck x := hrk.more HX.out.size
      have hrd' : LR kdInt wr wr.heap.size Ak' ck' x := hrk'.more HX.out.size
      have hwx : x.length ≤ 1048576 := by
        have h1 := Nat.le_trans (wtL_at kdL d k x hxk.out) HW.out
        have h2 : kdL.wt x = x.length := wtL_int x
        omega
      have hcall : ∀ dd os, Calls Tryz.prog 18 #[.slice Ak x.length ck, .slice Ak' x.length ck'] (grow (redrawn wr dd) os) fun e w'' => e = .returned (.bool true) ∧ ∃ p : Regrown, w'' = grow (redrawn wr p.d) p.os :=
        fun dd os => ext_regrown (kdL.q _ Ak Ak' ck ck' x ((hrd.ext (ext_re wr dd os) (Nat.le_refl _)).more (ext_re wr dd os).size) ((hrd'.ext (ext_re wr dd os) (Nat.le_refl _)).more (ext_re wr dd os).size) hwx)
      have HC := hide hcall
      have i1 : (k : Int) < n := by omega
      clear hc hrk hc' hrk' hcall hrd hrd' hwx
      go_wp2
      refine wp_region_quiet_below (by kernel_rfl) (by kernel_rfl) ?_
      repeat (quiet_step (exact HC.out _ _))
      refine wpQuiet_nil ?_
      intro _ hw'
      obtain ⟨⟨dq, osq⟩, hw''⟩ := hw'
      subst hw''
      have HX2 := hide (HX.out.trans (ext_re wr dq osq))
      clear q1 q2
      generalize grow (redrawn wr dq) osq = w2 at *
      go_wp2
      go_roundw
      case rel => exact ⟨k + 1, by omega, by go_num, HX2.out⟩
      case measure => simp [intOf]; omega
    · go_wp2
      go_ret
      exact ⟨rfl, HX.out⟩

set_option maxHeartbeats 1000000 in
theorem l.qMarks_same (w : World) (v v' : Value) (d : MD) (h : kM.rd w v d) (h' : kM.rd w v' d) (hok : kM.ok d) :
    Calls Tryz.prog 19 #[v, v'] w fun e w' => e = .returned (.bool true) ∧ Ext w w' := by
  obtain ⟨A, c, A', c', rfl, h1, h2⟩ := kM.lr h
  obtain ⟨D, e, D', e', rfl, h3, h4⟩ := kM.lr h'
  have H1 := hide h1
  have H2 := hide h2
  have H3 := hide h3
  have H4 := hide h4
  have hok : kdM.wt d ≤ 1048576 := hok
  have hw1 : kdLL.wt d.1 ≤ 1048576 := by have : kdM.wt d = kdLL.wt d.1 + kdLL.wt d.2 := rfl; omega
  have hw2 : kdLL.wt d.2 ≤ 1048576 := by have : kdM.wt d = kdLL.wt d.1 + kdLL.wt d.2 := rfl; omega
  clear h h1 h2 h' h3 h4 hok
  obtain ⟨n, hn⟩ : ∃ n, Hid (d.1.length = n) := ⟨_, rfl⟩
  obtain ⟨n', hn'⟩ : ∃ n', Hid (d.2.length = n') := ⟨_, rfl⟩
  rw [hn.out, hn'.out]
  obtain ⟨W0, hW0⟩ : ∃ W0, Hid (W0 = (w.alloc (.cells #[.slice A n c, .slice A' n' c'] 25)).alloc (.cells #[.slice D n e, .slice D' n' e'] 25)) := ⟨_, rfl⟩
  have X0 : Hid (Ext w W0) := by rw [hW0.out]; exact (Ext.alloc w _).trans (Ext.alloc _ _)
  have B1 := hide (show Blk W0 w.heap.size #[.slice A n c, .slice A' n' c'] 25 by rw [hW0.out]; exact (Blk.new rfl _ _).alloc _)
  have B2 := hide (show Blk W0 (w.heap.size + 1) #[.slice D n e, .slice D' n' e'] 25 by rw [hW0.out]; exact Blk.new (by simp) _ _)
  have Q1 := hide (l.qLists_same W0 A D c e d.1 ((H1.out.ext X0.out (Nat.le_refl _)).more X0.out.size) ((H3.out.ext X0.out (Nat.le_refl _)).more X0.out.size) hw1)
  rw [hn.out] at Q1
  go_enter Tryz.func19, Tryz.ntmps19
  go_wp2_with fail
  rw [← hW0.out]
  refine Q1.out.mono ?_
  rintro e1 w1 ⟨rfl, hx1⟩
  have c1_ := (B1.out.ext hx1).cell; have c2_ := (B2.out.ext hx1).cell
  have X1 := hide (X0.out.trans hx1)
  have Q2 := hide (l.qLists_same w1 A' D' c' e' d.2 ((H2.out.ext X1.out (Nat.le_refl _)).more X1.out.size) ((H4.out.ext X1.out (Nat.le_refl _)).more X1.out.size) hw2)
  rw [hn'.out] at Q2
  clear hx1
  go_wp2_with fail
  refine Q2.out.mono ?_
  rintro e1 w2 ⟨rfl, hx2⟩
  have X2 := hide (X1.out.trans hx2)
  clear hx2
  go_wp2
  go_ret
  exact ⟨rfl, X2.out⟩
end Go.Proofs.YtnokilofcdbjhaaGreatDoor
