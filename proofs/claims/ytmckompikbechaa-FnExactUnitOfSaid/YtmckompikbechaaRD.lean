/- Codes that are valid. -/
import Derived.Test.YtmckompikbechaaRC
import Derived.Test.YtmckompikbechaaNQ
import Derived.Test.YtmckompikbechaaT2
import Derived.BigQuiet
import Derived.IntWalk
import Derived.Deep.RegionHeld3
namespace Go.Proofs.Ytmckompikbechaa
open Go.RowKit Go.Sort
set_option linter.unusedVariables false

def ltS (a b : List UInt8) : Bool := Op.bytesLess (bs a).toList (bs b).toList
def elB (x : ElD) : Bool := nameB x.1 && inB 0 4 x.2.1 && inB 0 4 x.2.2.1 && inB 1 2000 x.2.2.2
def upB (xs : List ElD) (i : Nat) : Bool := decide (i = 0) || ltS (xs.getD (i - 1) noEl).1 (xs.getD i noEl).1
def elAt (xs : List ElD) (i : Nat) : Bool := elB (xs.getD i noEl) && upB xs i
def codeB (d : CoD) : Bool := inB 1 24 (d.1.length : Int) && ((d.2.1.length : Int) == 5) && d.2.1.all (inB 0 9) && inB 1 3 d.2.2.1 && inB 0 20 d.2.2.2.1 && inB 50 100 d.2.2.2.2.1 && inB 0 500 d.2.2.2.2.2 && (List.range d.1.length).all (elAt d.1)
theorem getD_some {α : Type} {xs : List α} {k : Nat} {x z : α} (h : xs[k]? = some x) : xs.getD k z = x := by
  rw [List.getD_eq_getElem?_getD, h]; rfl
theorem elAt_some {xs : List ElD} {k : Nat} {x : ElD} (h : xs[k]? = some x) : elAt xs k = (elB x && upB xs k) := by
  unfold elAt; rw [getD_some h]
theorem upB_zero (xs : List ElD) : upB xs 0 = true := rfl
theorem upB_succ {xs : List ElD} {k : Nat} {x y : ElD} (hk : 0 < k) (hy : xs[k - 1]? = some y) (h : xs[k]? = some x) : upB xs k = ltS y.1 x.1 := by
  unfold upB; rw [getD_some h, getD_some hy]
  have : decide (k = 0) = false := by simp; omega
  rw [this]; rfl
set_option maxHeartbeats 1000000 in
theorem s.cdName_any (x : List UInt8) (w : World) (hx : x.length ≤ 9223372036854775807) : Calls Try.prog 159 #[.string (bs x)] w fun e w' => e = .returned (.bool (nameB x)) ∧ w = w' := by
  obtain ⟨n, hn⟩ : ∃ n, Hid (x.length = n) := ⟨_, rfl⟩
  have hz : (bs x).size = n := by rw [bs_size, hn.out]
  rw [hn.out] at hx
  have GET := hide (bs_get x)
  have HZ := hide hz
  clear hz
  obtain ⟨sb, hs⟩ : ∃ sb, Hid (bs x = sb) := ⟨_, rfl⟩
  rw [hs.out] at GET HZ ⊢
  have hz := HZ.out
  go_enter Try.func159, Try.ntmps159
  go_wp2
  go_loop [3] (fun i => ∃ k : Nat, k ≤ n ∧ i = .int .i64 k ∧ (x.take k).all nameByte = true) (fun i => n - (intOf i).toNat)
  case atStart => exact ⟨0, Nat.zero_le _, rfl, rfl⟩
  case round =>
    obtain ⟨k, hk, rfl, hall⟩ := hrel
    have H := hide hall; clear hall
    by_cases hlt : k < n
    · obtain ⟨y, hy⟩ : ∃ y, Hid (x[k]? = some y) := ⟨_, List.getElem?_eq_getElem (by rw [hn.out]; exact hlt)⟩
      go_wp2
      all_goals have e := GET.out k (by omega) y hy.out
      all_goals try simp only [e] at *
      all_goals first
        | (go_ret
           refine ⟨ret_bool ?_, rfl⟩
           have hb : nameByte y = false := by unfold nameByte; simp; omega
           rw [nameB, allL_stop hy.out hb]; rfl)
        | (go_round
           case rel =>
             have hb : nameByte y = true := by unfold nameByte; simp; omega
             exact ⟨k + 1, by omega, by go_num, allL_step hy.out H.out hb⟩
           case measure => simp [intOf]; omega)
    · go_wp2_with (go_at_call 68; refine (s.l1In_any _ _ _ _).mono ?_; rintro e w' ⟨rfl, rfl⟩)
      go_ret
      exact ⟨ret_bool (by rw [nameB, allL_end (by rw [hn.out]; omega) H.out, hn.out]; simp), rfl⟩

theorem i.isFamily_any (z : Int) (w : World) : Calls Try.prog 136 #[.int .i64 z] w fun e w' => e = .returned (.bool (inB 0 4 z)) ∧ w = w' := by
  go_enter Try.func136, Try.ntmps136
  go_wp2_with (go_at_call 74; refine (i.within_any _ _ _ _).mono ?_; rintro e w' ⟨rfl, rfl⟩)
  go_ret
  exact ⟨rfl, rfl⟩
set_option maxHeartbeats 1000000 in
theorem s.cdElement_any (x : ElD) (w : World) (hl : x.1.length ≤ 9223372036854775807) : Calls Try.prog 132 #[.agg #[.string (bs x.1), .int .i64 x.2.1, .int .i64 x.2.2.1, .int .i64 x.2.2.2]] w fun e w' => e = .returned (.bool (elB x)) ∧ Ext w w' := by
  obtain ⟨nm, x1, x2, x3⟩ := x
  have NM := hide (fun w' => s.cdName_any nm w' hl)
  obtain ⟨R, hR⟩ : ∃ R, Hid (elB (nm, x1, x2, x3) = R) := ⟨_, rfl⟩
  have SE : Hid (R = (nameB nm && inB 0 4 x1 && inB 0 4 x2 && inB 1 2000 x3)) := by show _ = _; rw [← hR.out]; rfl
  rw [hR.out]
  clear hR
  dsimp only at hl ⊢
  generalize bs nm = sb at *
  have X0 := hide (Ext.alloc w (.cells #[.string sb, .int .i64 x1, .int .i64 x2, .int .i64 x3] 109))
  cases q1 : nameB nm
  · have HF : Hid (R = false) := by show _ = _; rw [SE.out]; simp [q1]
    rw [q1] at NM
    clear q1
    go_enter Try.func132, Try.ntmps132
    go_wp2_with (first | (go_at_call 159; refine (NM.out _).mono ?_; rintro e w' ⟨rfl, rfl⟩) | (go_at_call 68; refine (s.l1In_any _ _ _ _).mono ?_; rintro e w' ⟨rfl, rfl⟩))
    go_ret
    exact ⟨ret_bool HF.out.symm, X0.out⟩
  rw [q1] at NM
  replace SE : Hid (R = (inB 0 4 x1 && inB 0 4 x2 && inB 1 2000 x3)) := by show _ = _; rw [SE.out, q1]; simp
  clear q1
  cases q2 : inB 0 4 x1
  · have HF : Hid (R = false) := by show _ = _; rw [SE.out]; simp [q2]
    go_enter Try.func132, Try.ntmps132
    go_wp2_with (first | (go_at_call 159; refine (NM.out _).mono ?_; rintro e w' ⟨rfl, rfl⟩) | (go_at_call 68; refine (s.l1In_any _ _ _ _).mono ?_; rintro e w' ⟨rfl, rfl⟩))
    go_ret
    exact ⟨ret_bool HF.out.symm, X0.out⟩
  replace SE : Hid (R = (inB 0 4 x2 && inB 1 2000 x3)) := by show _ = _; rw [SE.out, q2]; simp
  cases q3 : inB 0 4 x2
  · have HF : Hid (R = false) := by show _ = _; rw [SE.out]; simp [q3]
    go_enter Try.func132, Try.ntmps132
    go_wp2_with (first | (go_at_call 159; refine (NM.out _).mono ?_; rintro e w' ⟨rfl, rfl⟩) | (go_at_call 68; refine (s.l1In_any _ _ _ _).mono ?_; rintro e w' ⟨rfl, rfl⟩))
    go_ret
    exact ⟨ret_bool HF.out.symm, X0.out⟩
  replace SE : Hid (R = inB 1 2000 x3) := by show _ = _; rw [SE.out, q3]; simp
  go_enter Try.func132, Try.ntmps132
  go_wp2_with (first | (go_at_call 159; refine (NM.out _).mono ?_; rintro e w' ⟨rfl, rfl⟩) | (go_at_call 68; refine (s.l1In_any _ _ _ _).mono ?_; rintro e w' ⟨rfl, rfl⟩))
  go_ret
  exact ⟨ret_bool SE.out.symm, X0.out⟩

set_option maxRecDepth 100000 in
set_option maxHeartbeats 1000000 in
theorem i.IsCode_m (w : World) (v : Value) (d : CoD) (h : kC.rd w v d) (hok : kC.ok d) :
    Calls Try.prog 85 #[v] w fun e w' => e = .returned (.bool (codeB d)) ∧ Ext w w' := by
  obtain ⟨A, c, A', c', rfl, h1, h2⟩ := kC.lr h
  have hok : kdCo.wt d ≤ 1048576 := hok
  rw [kdCo.wt_eq] at hok
  obtain ⟨d1, d2, r, b, p, f⟩ := d
  dsimp only at *
  have hw1 : wtL kdEl d1 ≤ 1048576 := by have : kdElS.wt d1 = wtL kdEl d1 := rfl; omega
  have hw2 : d2.length ≤ 1048576 := by have : kdL.wt d2 = d2.length := wtL_int _; omega
  have k1 := wtL_len kdEl d1
  have a1 := h1.1; have a2 := h1.2.1; have a3 := h2.1; have a4 := h2.2.1
  have H1 := hide h1
  have AL := hide (fun (wq : World) (xq : Ext w wq) => i.allWithin_any A' d2.length c' w.heap.size d2 0 9 wq (h2.sl.ext xq (Nat.le_refl _)) hw2)
  clear h h1 h2 hok
  obtain ⟨R, hR⟩ : ∃ R, Hid (codeB (d1, d2, r, b, p, f) = R) := ⟨_, rfl⟩
  rw [hR.out]
  obtain ⟨n, hn⟩ : ∃ n, Hid (d1.length = n) := ⟨_, rfl⟩
  obtain ⟨n', hn'⟩ : ∃ n', Hid (d2.length = n') := ⟨_, rfl⟩
  have SE : Hid (R = (inB 1 24 (n : Int) && ((n' : Int) == 5) && d2.all (inB 0 9) && inB 1 3 r && inB 0 20 b && inB 50 100 p && inB 0 500 f && (List.range n).all (elAt d1))) := by show _ = _; rw [← hR.out, ← hn.out, ← hn'.out]; rfl
  clear hR
  rw [hn.out] at k1 a1 ⊢
  rw [hn'.out] at AL a3 hw2 ⊢
  have n1 : n ≤ 1048576 := by omega
  clear hw1 k1
  generalize hl : d2.all (inB 0 9) = lb at *
  clear hl
  have X0 := hide (Ext.alloc w (.cells #[.slice A n c, .slice A' n' c', .int .i64 r, .int .i64 b, .int .i64 p, .int .i64 f] 59))
  cases q0 : inB 1 24 (n : Int)
  case false =>
    have HF : Hid (R = false) := by show _ = _; rw [SE.out]; simp [q0]
    go_enter Try.func85, Try.ntmps85
    go_wp2_with (first | (go_at_call 74; refine (i.within_any _ _ _ _).mono ?_; rintro e w' ⟨rfl, rfl⟩) | (go_at_call 116; refine (AL.out _ X0.out).mono ?_; rintro e w' ⟨rfl, rfl⟩))
    go_ret
    exact ⟨ret_bool HF.out.symm, X0.out⟩
  replace SE : Hid (R = (((n' : Int) == 5) && lb && inB 1 3 r && inB 0 20 b && inB 50 100 p && inB 0 500 f && (List.range n).all (elAt d1))) := by show _ = _; rw [SE.out, q0]; simp
  by_cases q1 : n' = 5
  case neg =>
    have b5 : ((n' : Int) != 5) = true := by rw [bne_iff_ne]; intro h8; exact q1 (by omega)
    have b6 : ((n' : Int) == 5) = false := by rw [beq_eq_false_iff_ne]; intro h8; exact q1 (by omega)
    have HF : Hid (R = false) := by show _ = _; rw [SE.out]; simp [b6]
    clear q1
    go_enter Try.func85, Try.ntmps85
    go_wp2_with (first | (go_at_call 74; refine (i.within_any _ _ _ _).mono ?_; rintro e w' ⟨rfl, rfl⟩) | (go_at_call 116; refine (AL.out _ X0.out).mono ?_; rintro e w' ⟨rfl, rfl⟩))
    go_ret
    exact ⟨ret_bool HF.out.symm, X0.out⟩
  have b5 : ((n' : Int) != 5) = false := by simp [q1]
  have b6 : ((n' : Int) == 5) = true := by simp [q1]
  replace SE : Hid (R = (lb && inB 1 3 r && inB 0 20 b && inB 50 100 p && inB 0 500 f && (List.range n).all (elAt d1))) := by show _ = _; rw [SE.out, b6]; simp
  have q51 : n' ≤ 5 ∧ 5 ≤ n' := by omega
  clear q1
  cases lb
  case false =>
    have HF : Hid (R = false) := by show _ = _; rw [SE.out]; simp
    go_enter Try.func85, Try.ntmps85
    go_wp2_with (first | (go_at_call 74; refine (i.within_any _ _ _ _).mono ?_; rintro e w' ⟨rfl, rfl⟩) | (go_at_call 116; refine (AL.out _ X0.out).mono ?_; rintro e w' ⟨rfl, rfl⟩))
    go_ret
    exact ⟨ret_bool HF.out.symm, X0.out⟩
  replace SE : Hid (R = (inB 1 3 r && inB 0 20 b && inB 50 100 p && inB 0 500 f && (List.range n).all (elAt d1))) := by show _ = _; rw [SE.out]; simp
  cases q3 : inB 1 3 r
  case false =>
    have HF : Hid (R = false) := by show _ = _; rw [SE.out]; simp [q3]
    go_enter Try.func85, Try.ntmps85
    go_wp2_with (first | (go_at_call 74; refine (i.within_any _ _ _ _).mono ?_; rintro e w' ⟨rfl, rfl⟩) | (go_at_call 116; refine (AL.out _ X0.out).mono ?_; rintro e w' ⟨rfl, rfl⟩))
    go_ret
    exact ⟨ret_bool HF.out.symm, X0.out⟩
  replace SE : Hid (R = (inB 0 20 b && inB 50 100 p && inB 0 500 f && (List.range n).all (elAt d1))) := by show _ = _; rw [SE.out, q3]; simp
  cases q4 : inB 0 20 b
  case false =>
    have HF : Hid (R = false) := by show _ = _; rw [SE.out]; simp [q4]
    go_enter Try.func85, Try.ntmps85
    go_wp2_with (first | (go_at_call 74; refine (i.within_any _ _ _ _).mono ?_; rintro e w' ⟨rfl, rfl⟩) | (go_at_call 116; refine (AL.out _ X0.out).mono ?_; rintro e w' ⟨rfl, rfl⟩))
    go_ret
    exact ⟨ret_bool HF.out.symm, X0.out⟩
  replace SE : Hid (R = (inB 50 100 p && inB 0 500 f && (List.range n).all (elAt d1))) := by show _ = _; rw [SE.out, q4]; simp
  cases q5 : inB 50 100 p
  case false =>
    have HF : Hid (R = false) := by show _ = _; rw [SE.out]; simp [q5]
    go_enter Try.func85, Try.ntmps85
    go_wp2_with (first | (go_at_call 74; refine (i.within_any _ _ _ _).mono ?_; rintro e w' ⟨rfl, rfl⟩) | (go_at_call 116; refine (AL.out _ X0.out).mono ?_; rintro e w' ⟨rfl, rfl⟩))
    go_ret
    exact ⟨ret_bool HF.out.symm, X0.out⟩
  replace SE : Hid (R = (inB 0 500 f && (List.range n).all (elAt d1))) := by show _ = _; rw [SE.out, q5]; simp
  cases q6 : inB 0 500 f
  case false =>
    have HF : Hid (R = false) := by show _ = _; rw [SE.out]; simp [q6]
    go_enter Try.func85, Try.ntmps85
    go_wp2_with (first | (go_at_call 74; refine (i.within_any _ _ _ _).mono ?_; rintro e w' ⟨rfl, rfl⟩) | (go_at_call 116; refine (AL.out _ X0.out).mono ?_; rintro e w' ⟨rfl, rfl⟩))
    go_ret
    exact ⟨ret_bool HF.out.symm, X0.out⟩
  replace SE : Hid (R = ((List.range n).all (elAt d1))) := by show _ = _; rw [SE.out, q6]; simp
  obtain ⟨W0, hW0⟩ : ∃ W0, Hid (W0 = w.alloc (.cells #[.slice A n c, .slice A' n' c', .int .i64 r, .int .i64 b, .int .i64 p, .int .i64 f] 59)) := ⟨_, rfl⟩
  have X : Hid (Ext w W0) := by rw [hW0.out]; exact Ext.alloc w _
  have B0 : Hid (Blk W0 w.heap.size #[.slice A n c, .slice A' n' c', .int .i64 r, .int .i64 b, .int .i64 p, .int .i64 f] 59) := by rw [hW0.out]; exact Blk.new rfl _ _
  have SEL := hide (fun (k : Nat) (x : ElD) (h : d1[k]? = some x) => elAt_some h)
  go_enter Try.func85, Try.ntmps85
  go_wp2_with (first | (go_at_call 74; refine (i.within_any _ _ _ _).mono ?_; rintro e w' ⟨rfl, rfl⟩) | (go_at_call 116; refine (AL.out _ X0.out).mono ?_; rintro e w' ⟨rfl, rfl⟩))
  rw [← hW0.out]
  clear hW0 q0 b5 b6 q3 q4 q5 q6 AL
  go_loopw [47] (fun i wr => ∃ (k : Nat), k ≤ n ∧ i = .int .i64 k ∧ (List.range k).all (elAt d1) = true ∧ Blk wr w.heap.size #[.slice A n c, .slice A' n' c', .int .i64 r, .int .i64 b, .int .i64 p, .int .i64 f] 59 ∧ Ext w wr) (fun i _ => n - (intOf i).toNat)
  case atStart => exact ⟨0, Nat.zero_le _, rfl, rfl, B0.out, X.out⟩
  case round =>
    obtain ⟨k, hk, rfl, hall, hb0, hx⟩ := hrel
    clear B0 X
    have HA := hide hall
    have B0 := hide hb0
    have X := hide hx
    clear hall hb0 hx
    by_cases hlt : k < n
    · obtain ⟨x, hxk⟩ : ∃ x, Hid (d1[k]? = some x) := ⟨_, List.getElem?_eq_getElem (by rw [hn.out]; exact hlt)⟩
      obtain ⟨g, off, rfl, hg, u0, u1, u2, u3, xl⟩ := (H1.out.ext X.out (Nat.le_refl _)).element k x hxk.out
      have sz := X.out.size
      have S1 := SEL.out k x hxk.out
      obtain ⟨eb, heb⟩ : ∃ eb, Hid (elB x = eb) := ⟨_, rfl⟩
      rw [heb.out] at S1
      have EA := hide S1
      have LE := hide heb.out
      clear S1
      obtain ⟨W1, hW1⟩ : ∃ W1, Hid (W1 = wr.alloc (.cells #[.string (bs x.1), .int .i64 x.2.1, .int .i64 x.2.2.1, .int .i64 x.2.2.2] 109)) := ⟨_, rfl⟩
      have x1 : Ext wr W1 := by rw [hW1.out]; exact Ext.alloc _ _
      have B1 : Hid (Blk W1 wr.heap.size #[.string (bs x.1), .int .i64 x.2.1, .int .i64 x.2.2.1, .int .i64 x.2.2.2] 109) := by rw [hW1.out]; exact Blk.new rfl _ _
      have HS : Hid ((List.range n).all (elAt d1) = false → R = false) := fun h9 => by rw [SE.out, h9]
      by_cases hk0 : k = 0
      · have HU : Hid (elAt d1 k = eb) := by show _ = _; rw [EA.out, hk0, upB_zero]; simp
        have kp : ¬ (0 < k) := by omega
        clear EA
        have kI : decide ((0 : Int) < (k : Int)) = false := by simp; omega
        clear hk0
        cases e0 : nameB x.1
        case false =>
          have hf : eb = false := by rw [← LE.out]; simp [elB, e0]
          have HF := hide (HS.out (range_stop hlt (by rw [HU.out, hf] <;> rfl)))
          clear hf
          go_wp2_with (first | (go_at_call 135; refine (i.IsElementName_any x.1 _ xl).mono ?_; rintro e w' ⟨rfl, rfl⟩) | (go_at_call 136; refine (i.isFamily_any _ _).mono ?_; rintro e w' ⟨rfl, rfl⟩) | (go_at_call 74; refine (i.within_any _ _ _ _).mono ?_; rintro e w' ⟨rfl, rfl⟩))
          go_ret
          exact ⟨ret_bool HF.out.symm, by first | exact X.out.trans (Ext.alloc _ _) | (rw [← hW1.out]; exact X.out.trans x1)⟩
        cases e1 : inB 0 4 x.2.1
        case false =>
          have hf : eb = false := by rw [← LE.out]; simp [elB, e1]
          have HF := hide (HS.out (range_stop hlt (by rw [HU.out, hf] <;> rfl)))
          clear hf
          go_wp2_with (first | (go_at_call 135; refine (i.IsElementName_any x.1 _ xl).mono ?_; rintro e w' ⟨rfl, rfl⟩) | (go_at_call 136; refine (i.isFamily_any _ _).mono ?_; rintro e w' ⟨rfl, rfl⟩) | (go_at_call 74; refine (i.within_any _ _ _ _).mono ?_; rintro e w' ⟨rfl, rfl⟩))
          go_ret
          exact ⟨ret_bool HF.out.symm, by first | exact X.out.trans (Ext.alloc _ _) | (rw [← hW1.out]; exact X.out.trans x1)⟩
        cases e2 : inB 0 4 x.2.2.1
        case false =>
          have hf : eb = false := by rw [← LE.out]; simp [elB, e2]
          have HF := hide (HS.out (range_stop hlt (by rw [HU.out, hf] <;> rfl)))
          clear hf
          go_wp2_with (first | (go_at_call 135; refine (i.IsElementName_any x.1 _ xl).mono ?_; rintro e w' ⟨rfl, rfl⟩) | (go_at_call 136; refine (i.isFamily_any _ _).mono ?_; rintro e w' ⟨rfl, rfl⟩) | (go_at_call 74; refine (i.within_any _ _ _ _).mono ?_; rintro e w' ⟨rfl, rfl⟩))
          go_ret
          exact ⟨ret_bool HF.out.symm, by first | exact X.out.trans (Ext.alloc _ _) | (rw [← hW1.out]; exact X.out.trans x1)⟩
        cases e3 : inB 1 2000 x.2.2.2
        case false =>
          have hf : eb = false := by rw [← LE.out]; simp [elB, e3]
          have HF := hide (HS.out (range_stop hlt (by rw [HU.out, hf] <;> rfl)))
          clear hf
          go_wp2_with (first | (go_at_call 135; refine (i.IsElementName_any x.1 _ xl).mono ?_; rintro e w' ⟨rfl, rfl⟩) | (go_at_call 136; refine (i.isFamily_any _ _).mono ?_; rintro e w' ⟨rfl, rfl⟩) | (go_at_call 74; refine (i.within_any _ _ _ _).mono ?_; rintro e w' ⟨rfl, rfl⟩))
          go_ret
          exact ⟨ret_bool HF.out.symm, by first | exact X.out.trans (Ext.alloc _ _) | (rw [← hW1.out]; exact X.out.trans x1)⟩
        have ht : eb = true := by rw [← LE.out]; simp [elB, e0, e1, e2, e3]
        rw [ht] at HU
        clear ht
        have X1 := hide (X.out.trans x1)
        have B2 := hide (B0.out.ext x1)
        clear x1
        go_wp2_with (first | (go_at_call 135; refine (i.IsElementName_any x.1 _ xl).mono ?_; rintro e w' ⟨rfl, rfl⟩) | (go_at_call 136; refine (i.isFamily_any _ _).mono ?_; rintro e w' ⟨rfl, rfl⟩) | (go_at_call 74; refine (i.within_any _ _ _ _).mono ?_; rintro e w' ⟨rfl, rfl⟩))
        rw [← hW1.out]
        clear hW1
        have c0_ := B2.out.cell; have c1_ := B1.out.cell
        go_quiet (fail)
        go_wp2
        go_roundw
        case rel => exact ⟨k + 1, by omega, by go_num, range_step HA.out (by rw [HU.out]), B2.out.ext (Ext.drewN _ _), X1.out.trans (Ext.drewN _ _)⟩
        case measure => simp [intOf]; omega
      · have kp : 0 < k := by omega
        obtain ⟨y, hyk⟩ : ∃ y, Hid (d1[k - 1]? = some y) := ⟨_, List.getElem?_eq_getElem (by rw [hn.out]; omega)⟩
        obtain ⟨g', off', he, hg', t0, _⟩ := (H1.out.ext X.out (Nat.le_refl _)).element (k - 1) y hyk.out
        simp only [Option.some.injEq, Addr.mk.injEq, and_true] at he
        obtain ⟨rfl, rfl⟩ := he
        have HU : Hid (elAt d1 k = (eb && ltS y.1 x.1)) := by show _ = _; rw [EA.out, upB_succ kp hyk.out hxk.out]
        have TK : W1.cell? ⟨g, off + (k - 1) * 4, none⟩ = some (.string (bs y.1)) := (x1.cell (by show g < _; omega)).trans t0
        obtain ⟨lt, hlt9⟩ : ∃ lt, Op.bytesLess (bs y.1).toList (bs x.1).toList = lt := ⟨_, rfl⟩
        rw [show ltS y.1 x.1 = lt from hlt9] at HU
        have k1 : (k : Int) - 1 = ((k - 1 : Nat) : Int) := by omega
        have K1 := hide k1
        clear EA k1 t0
        cases e0 : nameB x.1
        case false =>
          have hf : eb = false := by rw [← LE.out]; simp [elB, e0]
          have HF := hide (HS.out (range_stop hlt (by rw [HU.out, hf] <;> rfl)))
          clear hf
          clear hlt9
          go_wp2_with (first | (go_at_call 135; refine (i.IsElementName_any x.1 _ xl).mono ?_; rintro e w' ⟨rfl, rfl⟩) | (go_at_call 136; refine (i.isFamily_any _ _).mono ?_; rintro e w' ⟨rfl, rfl⟩) | (go_at_call 74; refine (i.within_any _ _ _ _).mono ?_; rintro e w' ⟨rfl, rfl⟩))
          go_ret
          exact ⟨ret_bool HF.out.symm, by first | exact X.out.trans (Ext.alloc _ _) | (rw [← hW1.out]; exact X.out.trans x1)⟩
        cases e1 : inB 0 4 x.2.1
        case false =>
          have hf : eb = false := by rw [← LE.out]; simp [elB, e1]
          have HF := hide (HS.out (range_stop hlt (by rw [HU.out, hf] <;> rfl)))
          clear hf
          clear hlt9
          go_wp2_with (first | (go_at_call 135; refine (i.IsElementName_any x.1 _ xl).mono ?_; rintro e w' ⟨rfl, rfl⟩) | (go_at_call 136; refine (i.isFamily_any _ _).mono ?_; rintro e w' ⟨rfl, rfl⟩) | (go_at_call 74; refine (i.within_any _ _ _ _).mono ?_; rintro e w' ⟨rfl, rfl⟩))
          go_ret
          exact ⟨ret_bool HF.out.symm, by first | exact X.out.trans (Ext.alloc _ _) | (rw [← hW1.out]; exact X.out.trans x1)⟩
        cases e2 : inB 0 4 x.2.2.1
        case false =>
          have hf : eb = false := by rw [← LE.out]; simp [elB, e2]
          have HF := hide (HS.out (range_stop hlt (by rw [HU.out, hf] <;> rfl)))
          clear hf
          clear hlt9
          go_wp2_with (first | (go_at_call 135; refine (i.IsElementName_any x.1 _ xl).mono ?_; rintro e w' ⟨rfl, rfl⟩) | (go_at_call 136; refine (i.isFamily_any _ _).mono ?_; rintro e w' ⟨rfl, rfl⟩) | (go_at_call 74; refine (i.within_any _ _ _ _).mono ?_; rintro e w' ⟨rfl, rfl⟩))
          go_ret
          exact ⟨ret_bool HF.out.symm, by first | exact X.out.trans (Ext.alloc _ _) | (rw [← hW1.out]; exact X.out.trans x1)⟩
        cases e3 : inB 1 2000 x.2.2.2
        case false =>
          have hf : eb = false := by rw [← LE.out]; simp [elB, e3]
          have HF := hide (HS.out (range_stop hlt (by rw [HU.out, hf] <;> rfl)))
          clear hf
          clear hlt9
          go_wp2_with (first | (go_at_call 135; refine (i.IsElementName_any x.1 _ xl).mono ?_; rintro e w' ⟨rfl, rfl⟩) | (go_at_call 136; refine (i.isFamily_any _ _).mono ?_; rintro e w' ⟨rfl, rfl⟩) | (go_at_call 74; refine (i.within_any _ _ _ _).mono ?_; rintro e w' ⟨rfl, rfl⟩))
          go_ret
          exact ⟨ret_bool HF.out.symm, by first | exact X.out.trans (Ext.alloc _ _) | (rw [← hW1.out]; exact X.out.trans x1)⟩
        have ht : eb = true := by rw [← LE.out]; simp [elB, e0, e1, e2, e3]
        rw [ht] at HU
        clear ht
        have X1 := hide (X.out.trans x1)
        have B2 := hide (B0.out.ext x1)
        clear x1
        have kI : decide ((0 : Int) < (k : Int)) = true := by simp; omega
        go_wp2_with (first | (go_at_call 135; refine (i.IsElementName_any x.1 _ xl).mono ?_; rintro e w' ⟨rfl, rfl⟩) | (go_at_call 136; refine (i.isFamily_any _ _).mono ?_; rintro e w' ⟨rfl, rfl⟩) | (go_at_call 74; refine (i.within_any _ _ _ _).mono ?_; rintro e w' ⟨rfl, rfl⟩))
        rw [← hW1.out]
        clear hW1
        have c0_ := B2.out.cell; have c1_ := B1.out.cell
        have k1 := K1.out
        cases lt
        · go_quiet (fail)
          have HF := hide (HS.out (range_stop hlt (by rw [HU.out]; simp)))
          clear hlt9 k1
          go_wp2
          go_ret
          exact ⟨ret_bool HF.out.symm, X1.out.trans (Ext.drewN _ _)⟩
        · go_quiet (fail)
          clear hlt9 k1
          go_wp2
          go_roundw
          case rel => exact ⟨k + 1, by omega, by go_num, range_step HA.out (by rw [HU.out]; simp), B2.out.ext (Ext.drewN _ _), X1.out.trans (Ext.drewN _ _)⟩
          case measure => simp [intOf]; omega
    · have HE : Hid ((List.range n).all (elAt d1) = true) := by rw [show n = k from by omega]; exact HA.out
      have HF : Hid (R = true) := by show _ = _; rw [SE.out, HE.out]
      go_wp2
      go_ret
      exact ⟨ret_bool HF.out.symm, X.out⟩
end Go.Proofs.Ytmckompikbechaa
