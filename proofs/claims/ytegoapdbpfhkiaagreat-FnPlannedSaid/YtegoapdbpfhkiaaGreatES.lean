/- The laws' comparisons of numbers, texts and items that are the same. -/
import Derived.Test.YtegoapdbpfhkiaaGreatGN
import Derived.Deep.Quiet
import Derived.Lib.QuietBelow
namespace Go.Proofs.YtegoapdbpfhkiaaGreat
open Go.RowKit Go.Sort
set_option linter.unusedVariables false

set_option maxHeartbeats 1000000 in
theorem l.qInts_same (A A' : Option Addr) (n c c' B B' : Nat) (zs : List Int) (w : World) (h : SlI w B A n zs) (h' : SlI w B' A' n zs) (hn : n ≤ 1048576) :
    Calls Tryz.prog 19 #[.slice A n c, .slice A' n c'] w fun e w' => e = .returned (.bool true) ∧ Ext w w' := by
  have HL := hide h.len
  have HW := hide h
  have HW' := hide h'
  clear h h'
  have hne : ((n : Int) != (n : Int)) = false := by simp
  go_enter Tryz.func19, Tryz.ntmps19
  go_wp2
  go_loopw [13] (fun i wr => ∃ k m : Nat, k ≤ n ∧ i = .int .i64 k ∧ wr = w.drewN m) (fun i _ => n - (intOf i).toNat)
  case atStart => exact ⟨0, 0, Nat.zero_le _, rfl, rfl⟩
  case round =>
    obtain ⟨k, m, hk, rfl, rfl⟩ := hrel
    by_cases hlt : k < n
    · obtain ⟨b, off, rfl, hb, hc⟩ := HW.out.cells (by omega)
      obtain ⟨b', off', rfl, hb', hc'⟩ := HW'.out.cells (by omega)
      have hck := hc k hlt
      have hck' := hc' k hlt
      clear hc hc'
      have i1 : (k : Int) < n := by omega
      go_wp2
      go_quiet (fail)
      go_wp2
      go_roundw
      case rel => exact ⟨k + 1, m + nq, by omega, by go_num, rfl⟩
      case measure => simp [intOf]; omega
    · go_wp2
      go_ret
      exact ⟨rfl, Ext.drewN w m⟩

theorem kdL.q (w : World) (A A' : Option Addr) (c c' : Nat) (x : List Int) (h : LR kdInt w w.heap.size A c x) (h' : LR kdInt w w.heap.size A' c' x) (hn : x.length ≤ 1048576) :
    Calls Tryz.prog 19 #[.slice A x.length c, .slice A' x.length c'] w fun e w' => e = .returned (.bool true) ∧ Ext w w' :=
  l.qInts_same _ _ _ _ _ _ _ x _ h.sl h'.sl hn

set_option maxHeartbeats 1000000 in
theorem l.qWords_same (A A' : Option Addr) (c c' B B' : Nat) (xs : List (List UInt8)) (w : World) (h : LR kdS w B A c xs) (h' : LR kdS w B' A' c' xs) (hn : xs.length ≤ 1048576) :
    Calls Tryz.prog 46 #[.slice A xs.length c, .slice A' xs.length c'] w fun e w' => e = .returned (.bool true) ∧ Ext w w' := by
  have HW := hide h
  have HW' := hide h'
  clear h h'
  obtain ⟨n, hnd⟩ : ∃ n, Hid (xs.length = n) := ⟨_, rfl⟩
  rw [hnd.out] at hn ⊢
  have hne : ((n : Int) != (n : Int)) = false := by simp
  go_enter Tryz.func46, Tryz.ntmps46
  go_wp2
  go_loopw [13] (fun i wr => ∃ k m : Nat, k ≤ n ∧ i = .int .i64 k ∧ wr = w.drewN m) (fun i _ => n - (intOf i).toNat)
  case atStart => exact ⟨0, 0, Nat.zero_le _, rfl, rfl⟩
  case round =>
    obtain ⟨k, m, hk, rfl, rfl⟩ := hrel
    by_cases hlt : k < n
    · obtain ⟨x, hxk⟩ : ∃ x, Hid (xs[k]? = some x) := ⟨_, List.getElem?_eq_getElem (by rw [hnd.out]; exact hlt)⟩
      obtain ⟨b, off, rfl, hb, hck, -⟩ := HW.out.str k x hxk.out
      obtain ⟨b', off', rfl, hb', hck', -⟩ := HW'.out.str k x hxk.out
      have i1 : (k : Int) < n := by omega
      clear hxk
      generalize bs x = bx at *
      go_wp2
      go_quiet (fail)
      go_wp2
      go_roundw
      case rel => exact ⟨k + 1, m + nq, by omega, by go_num, rfl⟩
      case measure => simp [intOf]; omega
    · go_wp2
      go_ret
      exact ⟨rfl, Ext.drewN w m⟩
set_option maxRecDepth 100000 in
set_option maxHeartbeats 4000000 in
theorem l.qItems_same (w : World) (A A' : Option Addr) (c c' B B' : Nat) (d : List ItD) (h : LR kdItem w B A c d) (h' : LR kdItem w B' A' c' d) (hB : B ≤ w.heap.size) (hB' : B' ≤ w.heap.size) (hwt : wtL kdItem d ≤ 1048576) :
    Calls Tryz.prog 18 #[.slice A d.length c, .slice A' d.length c'] w fun e w' => e = .returned (.bool true) ∧ Ext w w' := by
  have hlen := wtL_len kdItem d
  have HD := hide (h.more hB)
  have HD' := hide (h'.more hB')
  clear h h' hB hB'
  obtain ⟨n, hnd⟩ : ∃ n, Hid (d.length = n) := ⟨_, rfl⟩
  rw [hnd.out] at hlen ⊢
  have hn : n ≤ 1048576 := by omega
  have HW := hide hwt
  clear hwt hlen
  have hne : ((n : Int) != (n : Int)) = false := by simp
  go_enter Tryz.func18, Tryz.ntmps18
  go_wp2
  go_loopw [13] (fun i wr => ∃ (k : Nat), k ≤ n ∧ i = .int .i64 k ∧ Ext w wr) (fun i _ => n - (intOf i).toNat)
  case atStart => exact ⟨0, Nat.zero_le _, rfl, Ext.refl _⟩
  case round =>
    obtain ⟨k, hk, rfl, hx⟩ := hrel
    have HX := hide hx
    clear hx
    by_cases hlt : k < n
    · obtain ⟨x, hxk⟩ : ∃ x, Hid (d[k]? = some x) := ⟨_, List.getElem?_eq_getElem (by rw [hnd.out]; exact hlt)⟩
      obtain ⟨b, off, A1, c1, A2, c2, rfl, hb, q0, q1, q2, r1, r2⟩ := (HD.out.ext HX.out (Nat.le_refl _)).item k x hxk.out
      obtain ⟨b', off', A3, c3, A4, c4, rfl, hb', q3, q4, q5, r3, r4⟩ := (HD'.out.ext HX.out (Nat.le_refl _)).item k x hxk.out
      have hwx : kdItem.wt x ≤ 1048576 := Nat.le_trans (wtL_at kdItem d k x hxk.out) HW.out
      have hw1 : x.1.length ≤ 1048576 ∧ x.2.1.length ≤ 1048576 := by
        have h1 := kdItem.wt_eq x
        have h2 : x.1.length ≤ kdSS.wt x.1 := wtL_len kdS x.1
        have h3 : kdL.wt x.2.1 = x.2.1.length := wtL_int _
        omega
      have hb1 := Nat.lt_of_lt_of_le hb HX.out.size
      have hb2 := Nat.lt_of_lt_of_le hb' HX.out.size
      have CW := hide (fun (wq : World) (xq : Ext wr wq) => l.qWords_same A1 A3 c1 c3 _ _ x.1 wq (r1.ext xq HX.out.size) (r3.ext xq HX.out.size) hw1.1)
      have CI := hide (fun (wq : World) (xq : Ext wr wq) => l.qInts_same A2 A4 x.2.1.length c2 c4 _ _ x.2.1 wq (r2.ext xq HX.out.size).sl (r4.ext xq HX.out.size).sl hw1.2)
      have hcw : ∀ dd os, Calls Tryz.prog 46 #[.slice A1 x.1.length c1, .slice A3 x.1.length c3] (grow (redrawn wr dd) os) fun e w'' => e = .returned (.bool true) ∧ ∃ p : Regrown, w'' = grow (redrawn wr p.d) p.os :=
        fun dd os => ext_regrown (CW.out _ (ext_re wr dd os))
      have hci : ∀ dd os, Calls Tryz.prog 19 #[.slice A2 x.2.1.length c2, .slice A4 x.2.1.length c4] (grow (redrawn wr dd) os) fun e w'' => e = .returned (.bool true) ∧ ∃ p : Regrown, w'' = grow (redrawn wr p.d) p.os :=
        fun dd os => ext_regrown (CI.out _ (ext_re wr dd os))
      have HC := hide hcw
      have HI := hide hci
      have e0 := fun dd os => cell_regrown q0 dd os
      have e1 := fun dd os => cell_regrown q1 dd os
      have e2 := fun dd os => cell_regrown q2 dd os
      have e3 := fun dd os => cell_regrown q3 dd os
      have e4 := fun dd os => cell_regrown q4 dd os
      have e5 := fun dd os => cell_regrown q5 dd os
      have i1 : (k : Int) < n := by omega
      have el : (x.2.2 != x.2.2) = false := by simp
      clear q0 q1 q2 q3 q4 q5 r1 r2 r3 r4 hcw hci hwx hw1 CW CI hxk
      generalize x.1.length = u1 at *
      generalize x.2.1.length = u2 at *
      generalize x.2.2 = u3 at *
      go_wp2
      refine wp_region_quiet_below (by kernel_rfl) (by kernel_rfl) ?_
      repeat (go_big_quiet_step (first | with_reducible exact HC.out _ _ | with_reducible exact HI.out _ _))
      refine wpQuiet_nil ?_
      intro _ hw'
      obtain ⟨⟨dq, osq⟩, hw''⟩ := hw'
      subst hw''
      have HX2 := hide (HX.out.trans (ext_re wr dq osq))
      clear e0 e1 e2 e3 e4 e5
      generalize grow (redrawn wr dq) osq = w2 at *
      go_wp2
      go_roundw
      case rel => exact ⟨k + 1, by omega, by go_num, HX2.out⟩
      case measure => simp [intOf]; omega
    · go_wp2
      go_ret
      exact ⟨rfl, HX.out⟩
end Go.Proofs.YtegoapdbpfhkiaaGreat
