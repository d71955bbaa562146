/- Lists whose names are known; the worth of an element. -/
import Derived.Test.YtmckompikbechaaRF
namespace Go.Proofs.Ytmckompikbechaa
open Go.RowKit Go.Sort
set_option linter.unusedVariables false

def knownI (els : List ElD) (x : ItD) : Bool := x.1.all (fun nm => decide (0 ≤ findF els nm))
def knownB (els : List ElD) (xs : List ItD) : Bool := xs.all (knownI els)
theorem elB_ok {x : ElD} (h : elB x = true) : 0 ≤ x.2.1 ∧ x.2.1 ≤ 4 ∧ 0 ≤ x.2.2.1 ∧ x.2.2.1 ≤ 4 ∧ 1 ≤ x.2.2.2 ∧ x.2.2.2 ≤ 2000 := by
  simp only [elB, inB, Bool.and_eq_true, decide_eq_true_eq] at h
  omega
structure CodeOk (d : CoD) : Prop where
  n1 : 1 ≤ d.1.length
  n2 : d.1.length ≤ 24
  lim : d.2.1.length = 5
  limb : ∀ z ∈ d.2.1, 0 ≤ z ∧ z ≤ 9
  rep : 1 ≤ d.2.2.1 ∧ d.2.2.1 ≤ 3
  bon : 0 ≤ d.2.2.2.1 ∧ d.2.2.2.1 ≤ 20
  kep : 50 ≤ d.2.2.2.2.1 ∧ d.2.2.2.2.1 ≤ 100
  els : ∀ (k : Nat) (x : ElD), d.1[k]? = some x → elB x = true
theorem codeB_ok {d : CoD} (h : codeB d = true) : CodeOk d := by
  simp only [codeB, Bool.and_eq_true, beq_iff_eq, List.all_eq_true, List.mem_range] at h
  obtain ⟨⟨⟨⟨⟨⟨⟨h1, h2⟩, h3⟩, h4⟩, h5⟩, h6⟩, h7⟩, h8⟩ := h
  simp only [inB, Bool.and_eq_true, decide_eq_true_eq] at h1 h4 h5 h6 h7
  refine ⟨by omega, by omega, by omega, fun z hz => ?_, by omega, by omega, by omega, fun k x hx => ?_⟩
  · have := h3 z hz
    simp only [inB, Bool.and_eq_true, decide_eq_true_eq] at this
    exact this
  · have := h8 k (List.getElem?_eq_some_iff.1 hx).1
    rw [elAt_some hx, Bool.and_eq_true] at this
    exact this.1

set_option maxRecDepth 100000 in
set_option maxHeartbeats 1000000 in
theorem i.isKnown_m (w : World) (v : Value) (d : CoD) (A : Option Addr) (c B : Nat) (xs : List ItD) (h : kC.rd w v d) (hok : kC.ok d) (hi : LR kdItem w B A c xs) (hB : B ≤ w.heap.size) (hlen : xs.length ≤ 1048576) (hwt : ∀ (k : Nat) (x : ItD), xs[k]? = some x → kdItem.wt x ≤ 1048576) :
    Calls Try.prog 142 #[v, .slice A xs.length c] w fun e w' => e = .returned (.bool (knownB d.1 xs)) ∧ Ext w w' := by
  obtain ⟨Ac, nc, cc, Al, nl, cl, r, b, p, f, rfl⟩ := kC.shape h
  have HR := hide h
  have H := hide hi
  have HW := hide hwt
  have a1 := hi.1; have a2 := hi.2.1
  clear h hi hwt
  obtain ⟨R, hR⟩ : ∃ R, Hid (knownB d.1 xs = R) := ⟨_, rfl⟩
  rw [hR.out]
  obtain ⟨n, hn⟩ : ∃ n, Hid (xs.length = n) := ⟨_, rfl⟩
  rw [hn.out] at hlen a1 ⊢
  have n1 : n ≤ 1048576 := hlen
  clear hlen
  obtain ⟨W0, hW0⟩ : ∃ W0, Hid (W0 = w.alloc (.cells #[.slice Ac nc cc, .slice Al nl cl, .int .i64 r, .int .i64 b, .int .i64 p, .int .i64 f] 59)) := ⟨_, rfl⟩
  have X0 : Hid (Ext w W0) := by rw [hW0.out]; exact Ext.alloc w _
  have B0 : Hid (Blk W0 w.heap.size #[.slice Ac nc cc, .slice Al nl cl, .int .i64 r, .int .i64 b, .int .i64 p, .int .i64 f] 59) := by rw [hW0.out]; exact Blk.new rfl _ _
  go_enter Try.func142, Try.ntmps142
  go_wp2
  rw [← hW0.out]
  clear hW0
  go_loopw [11] (fun i wr => ∃ (k : Nat), k ≤ n ∧ i = .int .i64 k ∧ (xs.take k).all (knownI d.1) = true ∧ Ext W0 wr) (fun i _ => n - (intOf i).toNat)
  case atStart => exact ⟨0, Nat.zero_le _, rfl, rfl, Ext.refl _⟩
  case round =>
    obtain ⟨k, hk, rfl, hall, hx⟩ := hrel
    have HA := hide hall
    have HX := hide hx
    clear hall hx
    by_cases hlt : k < n
    · obtain ⟨x, hxk⟩ : ∃ x, Hid (xs[k]? = some x) := ⟨_, List.getElem?_eq_getElem (by rw [hn.out]; exact hlt)⟩
      have XW := hide (X0.out.trans HX.out)
      obtain ⟨bb, off, A1, c1, A2, c2, rfl, hb, q0, q1, q2, r1, r2⟩ := (H.out.ext XW.out hB).item k x hxk.out
      obtain ⟨k1, k2, _⟩ := kdItem.wt_le (HW.out k x hxk.out)
      have sz := XW.out.size
      obtain ⟨W1, hW1⟩ : ∃ W1, Hid (W1 = wr.alloc (.cells #[.slice A1 x.1.length c1, .slice A2 x.2.1.length c2, .bool x.2.2] 70)) := ⟨_, rfl⟩
      have X1 : Hid (Ext W0 W1) := by rw [hW1.out]; exact HX.out.trans (Ext.alloc _ _)
      have R1 := hide (r1.ext (show Ext wr W1 by rw [hW1.out]; exact Ext.alloc _ _) (by omega))
      have b1 := r1.1; have b2 := r1.2.1
      clear r1 r2 k2
      have hKI : ∀ (y : ItD), knownI d.1 y = y.1.all (fun nm => decide (0 ≤ findF d.1 nm)) := fun _ => rfl
      have HKI := hide (hKI x)
      clear hKI
      obtain ⟨m, hm⟩ : ∃ m, Hid (x.1.length = m) := ⟨_, rfl⟩
      rw [hm.out] at q0 hW1 k1 b1
      generalize x.2.1.length = m2 at *
      generalize x.2.2 = m3 at *
      go_wp2
      rw [← hW1.out]
      clear hW1 q0 q1 q2
      go_loopw [18] (fun i wr => ∃ (j : Nat), j ≤ m ∧ i = .int .i64 j ∧ (x.1.take j).all (fun nm => decide (0 ≤ findF d.1 nm)) = true ∧ Ext W1 wr) (fun i _ => m - (intOf i).toNat)
      case atStart => exact ⟨0, Nat.zero_le _, rfl, rfl, Ext.refl _⟩
      case round =>
        obtain ⟨j, hj, rfl, hall, hx⟩ := hrel
        have HA2 := hide hall
        have HX2 := hide hx
        clear hall hx
        by_cases hltj : j < m
        · obtain ⟨nm, hnj⟩ : ∃ nm, Hid (x.1[j]? = some nm) := ⟨_, List.getElem?_eq_getElem (by rw [hm.out]; exact hltj)⟩
          obtain ⟨b9, off9, rfl, hb9, u0, ul⟩ := (R1.out.ext HX2.out (by have := X1.out.size; have := X0.out.size; omega)).str j nm hnj.out
          have XX := hide (X1.out.trans HX2.out)
          have cB := (B0.out.ext XX.out).cell
          have FE := hide (i.findElement_m wr _ d nm (kC.rd_ext HR.out (X0.out.trans XX.out)) hok)
          obtain ⟨F, hF⟩ : ∃ F, Hid (findF d.1 nm = F) := ⟨_, rfl⟩
          rw [hF.out] at FE
          generalize bs nm = nb at *
          go_wp2_with fail
          refine FE.out.mono ?_
          rintro e w2 ⟨rfl, x2⟩
          have HX3 := hide (HX2.out.trans x2)
          clear x2 cB u0 FE
          by_cases hneg : F < 0
          · have HF : Hid (R = false) := by
              show _ = _
              rw [← hR.out]
              exact allL_stop hxk.out (by rw [HKI.out]; exact allL_stop hnj.out (by rw [hF.out]; simp; omega))
            go_wp2
            go_ret
            exact ⟨ret_bool HF.out.symm, X0.out.trans (X1.out.trans HX3.out)⟩
          · have HN : Hid (decide (0 ≤ findF d.1 nm) = true) := by show _ = _; rw [hF.out]; simp; omega
            go_wp2
            go_roundw
            case rel => exact ⟨j + 1, by omega, by go_num, allL_step hnj.out HA2.out HN.out, HX3.out⟩
            case measure => simp [intOf]; omega
        · have HN : Hid (knownI d.1 x = true) := by show _ = _; rw [HKI.out]; exact allL_end (by rw [hm.out]; omega) HA2.out
          go_wp2
          go_roundw
          case rel => exact ⟨k + 1, by omega, by go_num, allL_step hxk.out HA.out HN.out, X1.out.trans HX2.out⟩
          case measure => simp [intOf]; omega
    · have HF : Hid (R = true) := by show _ = _; rw [← hR.out]; exact allL_end (by rw [hn.out]; omega) HA.out
      go_wp2
      go_ret
      exact ⟨ret_bool HF.out.symm, X0.out.trans HX.out⟩

set_option maxRecDepth 100000 in
set_option maxHeartbeats 1000000 in
theorem s.bsKnows_m (w : World) (v : Value) (d : CoD) (A : Option Addr) (c B : Nat) (xs : List ItD) (h : kC.rd w v d) (hok : kC.ok d) (hi : LR kdItem w B A c xs) (hB : B ≤ w.heap.size) (hlen : xs.length ≤ 1048576) (hwt : ∀ (k : Nat) (x : ItD), xs[k]? = some x → kdItem.wt x ≤ 1048576) :
    Calls Try.prog 138 #[v, .slice A xs.length c] w fun e w' => e = .returned (.bool (knownB d.1 xs)) ∧ Ext w w' := by
  obtain ⟨Ac, nc, cc, Al, nl, cl, r, b, p, f, rfl⟩ := kC.shape h
  have HR := hide h
  have H := hide hi
  have HW := hide hwt
  have a1 := hi.1; have a2 := hi.2.1
  clear h hi hwt
  obtain ⟨R, hR⟩ : ∃ R, Hid (knownB d.1 xs = R) := ⟨_, rfl⟩
  rw [hR.out]
  obtain ⟨n, hn⟩ : ∃ n, Hid (xs.length = n) := ⟨_, rfl⟩
  rw [hn.out] at hlen a1 ⊢
  have n1 : n ≤ 1048576 := hlen
  clear hlen
  obtain ⟨W0, hW0⟩ : ∃ W0, Hid (W0 = w.alloc (.cells #[.slice Ac nc cc, .slice Al nl cl, .int .i64 r, .int .i64 b, .int .i64 p, .int .i64 f] 59)) := ⟨_, rfl⟩
  have X0 : Hid (Ext w W0) := by rw [hW0.out]; exact Ext.alloc w _
  have B0 : Hid (Blk W0 w.heap.size #[.slice Ac nc cc, .slice Al nl cl, .int .i64 r, .int .i64 b, .int .i64 p, .int .i64 f] 59) := by rw [hW0.out]; exact Blk.new rfl _ _
  go_enter Try.func138, Try.ntmps138
  go_wp2
  rw [← hW0.out]
  clear hW0
  go_loopw [11] (fun i wr => ∃ (k : Nat), k ≤ n ∧ i = .int .i64 k ∧ (xs.take k).all (knownI d.1) = true ∧ Ext W0 wr) (fun i _ => n - (intOf i).toNat)
  case atStart => exact ⟨0, Nat.zero_le _, rfl, rfl, Ext.refl _⟩
  case round =>
    obtain ⟨k, hk, rfl, hall, hx⟩ := hrel
    have HA := hide hall
    have HX := hide hx
    clear hall hx
    by_cases hlt : k < n
    · obtain ⟨x, hxk⟩ : ∃ x, Hid (xs[k]? = some x) := ⟨_, List.getElem?_eq_getElem (by rw [hn.out]; exact hlt)⟩
      have XW := hide (X0.out.trans HX.out)
      obtain ⟨bb, off, A1, c1, A2, c2, rfl, hb, q0, q1, q2, r1, r2⟩ := (H.out.ext XW.out hB).item k x hxk.out
      obtain ⟨k1, k2, _⟩ := kdItem.wt_le (HW.out k x hxk.out)
      have sz := XW.out.size
      obtain ⟨W1, hW1⟩ : ∃ W1, Hid (W1 = wr.alloc (.cells #[.slice A1 x.1.length c1, .slice A2 x.2.1.length c2, .bool x.2.2] 70)) := ⟨_, rfl⟩
      have X1 : Hid (Ext W0 W1) := by rw [hW1.out]; exact HX.out.trans (Ext.alloc _ _)
      have R1 := hide (r1.ext (show Ext wr W1 by rw [hW1.out]; exact Ext.alloc _ _) (by omega))
      have b1 := r1.1; have b2 := r1.2.1
      clear r1 r2 k2
      have hKI : ∀ (y : ItD), knownI d.1 y = y.1.all (fun nm => decide (0 ≤ findF d.1 nm)) := fun _ => rfl
      have HKI := hide (hKI x)
      clear hKI
      obtain ⟨m, hm⟩ : ∃ m, Hid (x.1.length = m) := ⟨_, rfl⟩
      rw [hm.out] at q0 hW1 k1 b1
      generalize x.2.1.length = m2 at *
      generalize x.2.2 = m3 at *
      go_wp2
      rw [← hW1.out]
      clear hW1 q0 q1 q2
      go_loopw [18] (fun i wr => ∃ (j : Nat), j ≤ m ∧ i = .int .i64 j ∧ (x.1.take j).all (fun nm => decide (0 ≤ findF d.1 nm)) = true ∧ Ext W1 wr) (fun i _ => m - (intOf i).toNat)
      case atStart => exact ⟨0, Nat.zero_le _, rfl, rfl, Ext.refl _⟩
      case round =>
        obtain ⟨j, hj, rfl, hall, hx⟩ := hrel
        have HA2 := hide hall
        have HX2 := hide hx
        clear hall hx
        by_cases hltj : j < m
        · obtain ⟨nm, hnj⟩ : ∃ nm, Hid (x.1[j]? = some nm) := ⟨_, List.getElem?_eq_getElem (by rw [hm.out]; exact hltj)⟩
          obtain ⟨b9, off9, rfl, hb9, u0, ul⟩ := (R1.out.ext HX2.out (by have := X1.out.size; have := X0.out.size; omega)).str j nm hnj.out
          have XX := hide (X1.out.trans HX2.out)
          have cB := (B0.out.ext XX.out).cell
          have FE := hide (s.cdFind_m wr _ d nm (kC.rd_ext HR.out (X0.out.trans XX.out)) hok)
          obtain ⟨F, hF⟩ : ∃ F, Hid (findF d.1 nm = F) := ⟨_, rfl⟩
          rw [hF.out] at FE
          generalize bs nm = nb at *
          go_wp2_with fail
          refine FE.out.mono ?_
          rintro e w2 ⟨rfl, x2⟩
          have HX3 := hide (HX2.out.trans x2)
          clear x2 cB u0 FE
          by_cases hneg : F < 0
          · have HF : Hid (R = false) := by
              show _ = _
              rw [← hR.out]
              exact allL_stop hxk.out (by rw [HKI.out]; exact allL_stop hnj.out (by rw [hF.out]; simp; omega))
            go_wp2
            go_ret
            exact ⟨ret_bool HF.out.symm, X0.out.trans (X1.out.trans HX3.out)⟩
          · have HN : Hid (decide (0 ≤ findF d.1 nm) = true) := by show _ = _; rw [hF.out]; simp; omega
            go_wp2
            go_roundw
            case rel => exact ⟨j + 1, by omega, by go_num, allL_step hnj.out HA2.out HN.out, HX3.out⟩
            case measure => simp [intOf]; omega
        · have HN : Hid (knownI d.1 x = true) := by show _ = _; rw [HKI.out]; exact allL_end (by rw [hm.out]; omega) HA2.out
          go_wp2
          go_roundw
          case rel => exact ⟨k + 1, by omega, by go_num, allL_step hxk.out HA.out HN.out, X1.out.trans HX2.out⟩
          case measure => simp [intOf]; omega
    · have HF : Hid (R = true) := by show _ = _; rw [← hR.out]; exact allL_end (by rw [hn.out]; omega) HA.out
      go_wp2
      go_ret
      exact ⟨ret_bool HF.out.symm, X0.out.trans HX.out⟩

/-! ### Worths -/
def worthE (kp : Int) (x : ElD) (mark : Int) : Int := if mark = 1 then x.2.2.2 * kp / 100 else if mark = 2 then x.2.2.2 * 9 / 10 else if mark = 3 then 0 else x.2.2.2
def worthN (d : CoD) (nm : List UInt8) (mark : Int) : Int := worthE d.2.2.2.2.1 (d.1.getD (findF d.1 nm).toNat noEl) mark
theorem worthE_bd {kp : Int} {x : ElD} (mark : Int) (hk : 0 ≤ kp ∧ kp ≤ 100) (hx : 0 ≤ x.2.2.2 ∧ x.2.2.2 ≤ 2000) : 0 ≤ worthE kp x mark ∧ worthE kp x mark ≤ 2000 := by
  unfold worthE
  have h0 : 0 ≤ x.2.2.2 * kp := Int.mul_nonneg hx.1 hk.1
  have h1 : x.2.2.2 * kp ≤ x.2.2.2 * 100 := Int.mul_le_mul_of_nonneg_left hk.2 hx.1
  split
  · constructor
    · exact Int.ediv_nonneg h0 (by decide)
    · omega
  · split
    · omega
    · split <;> omega
theorem worthN_bd {d : CoD} (hd : CodeOk d) (nm : List UInt8) (mark : Int) : 0 ≤ worthN d nm mark ∧ worthN d nm mark ≤ 2000 := by
  refine worthE_bd mark ⟨by have := hd.kep; omega, hd.kep.2⟩ ?_
  cases hx : d.1[(findF d.1 nm).toNat]? with
  | none => rw [List.getD_eq_getElem?_getD, hx]; exact ⟨by decide, by decide⟩
  | some x => rw [getD_some hx]; have := elB_ok (hd.els _ _ hx); omega

set_option maxRecDepth 100000 in
set_option maxHeartbeats 1000000 in
theorem i.worthOf_m (w : World) (v : Value) (d : CoD) (x : ElD) (mark : Int) (h : kC.rd w v d) (hd : CodeOk d) (hx : elB x = true) :
    Calls Try.prog 161 #[v, .agg #[.string (bs x.1), .int .i64 x.2.1, .int .i64 x.2.2.1, .int .i64 x.2.2.2], .int .i64 mark] w fun e w' => e = .returned (.int .i64 (worthE d.2.2.2.2.1 x mark)) ∧ Ext w w' := by
  obtain ⟨A, c, A', c', rfl, h1, h2⟩ := kC.lr h
  have hb := elB_ok hx
  have hk := hd.kep
  clear h h1 h2 hx
  have e0 : ∀ m, worthE d.2.2.2.2.1 x m = if m = 1 then x.2.2.2 * d.2.2.2.2.1 / 100 else if m = 2 then x.2.2.2 * 9 / 10 else if m = 3 then 0 else x.2.2.2 := fun _ => rfl
  have E0 := hide (e0 mark)
  clear e0
  generalize worthE d.2.2.2.2.1 x mark = R at *
  generalize d.1.length = n at *
  generalize d.2.1.length = n' at *
  generalize d.2.2.1 = r at *
  generalize d.2.2.2.1 = b at *
  generalize d.2.2.2.2.2 = f at *
  generalize d.2.2.2.2.1 = kp at *
  generalize bs x.1 = sb at *
  generalize x.2.1 = y1 at *
  generalize x.2.2.1 = y2 at *
  generalize x.2.2.2 = y at *
  have h0 : 0 ≤ y * kp := Int.mul_nonneg (by omega) (by omega)
  have h1 : y * kp ≤ y * 100 := Int.mul_le_mul_of_nonneg_left (by omega) (by omega)
  have h2 : y * kp ≤ 200000 := by omega
  have X0 := hide ((Ext.alloc w (.cells #[.slice A n c, .slice A' n' c', .int .i64 r, .int .i64 b, .int .i64 kp, .int .i64 f] 59)).trans (Ext.alloc _ (.cells #[.string sb, .int .i64 y1, .int .i64 y2, .int .i64 y] 109)))
  clear h1
  by_cases m1 : mark = 1
  · have HF : Hid (R = y * kp / 100) := by show _ = _; rw [E0.out, if_pos m1]
    subst m1
    clear E0
    go_enter Try.func161, Try.ntmps161
    go_wp2
    go_ret
    exact ⟨ret_int HF.out.symm, X0.out⟩
  have b1 : (mark == 1) = false := by simp [m1]
  by_cases m2 : mark = 2
  · have HF : Hid (R = y * 9 / 10) := by show _ = _; rw [E0.out, if_neg m1, if_pos m2]
    subst m2
    clear E0 b1 m1
    go_enter Try.func161, Try.ntmps161
    go_wp2
    go_ret
    exact ⟨ret_int HF.out.symm, X0.out⟩
  have b2 : (mark == 2) = false := by simp [m2]
  by_cases m3 : mark = 3
  · have HF : Hid (R = 0) := by show _ = _; rw [E0.out, if_neg m1, if_neg m2, if_pos m3]
    subst m3
    clear E0 b1 m1 b2 m2
    go_enter Try.func161, Try.ntmps161
    go_wp2
    go_ret
    exact ⟨ret_int HF.out.symm, X0.out⟩
  have b3 : (mark == 3) = false := by simp [m3]
  have HF : Hid (R = y) := by show _ = _; rw [E0.out, if_neg m1, if_neg m2, if_neg m3]
  clear E0 m1 m2 m3
  go_enter Try.func161, Try.ntmps161
  go_wp2
  go_ret
  exact ⟨ret_int HF.out.symm, X0.out⟩

set_option maxRecDepth 100000 in
set_option maxHeartbeats 1000000 in
theorem s.bsWorth_m (w : World) (v : Value) (d : CoD) (nm : List UInt8) (mark : Int) (h : kC.rd w v d) (hok : kC.ok d) (hd : CodeOk d) (hf : 0 ≤ findF d.1 nm) :
    Calls Try.prog 140 #[v, .string (bs nm), .int .i64 mark] w fun e w' => e = .returned (.int .i64 (worthN d nm mark)) ∧ Ext w w' := by
  obtain ⟨k, x, hfk, hxk, -⟩ := findF_some hf
  have e0 : worthN d nm mark = if mark = 1 then x.2.2.2 * d.2.2.2.2.1 / 100 else if mark = 2 then x.2.2.2 * 9 / 10 else if mark = 3 then 0 else x.2.2.2 := by
    unfold worthN
    rw [hfk, Int.toNat_natCast, getD_some hxk]
    rfl
  have E0 := hide e0
  have hb := elB_ok (hd.els _ _ hxk)
  have hk := hd.kep
  have FE := hide (fun (wq : World) (xq : Ext w wq) => s.cdFind_m wq v d nm (kC.rd_ext h xq) hok)
  rw [hfk] at FE
  obtain ⟨A, c, A', c', rfl, h1, h2⟩ := kC.lr h
  obtain ⟨bb, off, rfl, hbb, u0, u1, u2, u3, xl⟩ := h1.element k x hxk
  have kl : k < d.1.length := (List.getElem?_eq_some_iff.1 hxk).1
  have a1 := h1.1; have a2 := h1.2.1
  have kl2 := hd.n2
  clear h h1 h2 e0 hf hfk u0 u1 u2 hxk
  generalize worthN d nm mark = R at *
  generalize d.1.length = n at *
  generalize d.2.1.length = n' at *
  generalize d.2.2.1 = r at *
  generalize d.2.2.2.1 = b at *
  generalize d.2.2.2.2.2 = f at *
  generalize d.2.2.2.2.1 = kp at *
  generalize bs nm = sb at *
  generalize x.2.2.2 = y at *
  have h0 : 0 ≤ y * kp := Int.mul_nonneg (by omega) (by omega)
  have h1 : y * kp ≤ y * 100 := Int.mul_le_mul_of_nonneg_left (by omega) (by omega)
  have h2 : y * kp ≤ 200000 := by omega
  clear h1
  obtain ⟨W0, hW0⟩ : ∃ W0, Hid (W0 = w.alloc (.cells #[.slice (some ⟨bb, off, none⟩) n c, .slice A' n' c', .int .i64 r, .int .i64 b, .int .i64 kp, .int .i64 f] 59)) := ⟨_, rfl⟩
  have X0 : Hid (Ext w W0) := by rw [hW0.out]; exact Ext.alloc w _
  have B0 : Hid (Blk W0 w.heap.size #[.slice (some ⟨bb, off, none⟩) n c, .slice A' n' c', .int .i64 r, .int .i64 b, .int .i64 kp, .int .i64 f] 59) := by rw [hW0.out]; exact Blk.new rfl _ _
  have U3 := hide u3
  clear u3
  go_enter Try.func140, Try.ntmps140
  go_wp2_with fail
  rw [← hW0.out]
  clear hW0
  refine (FE.out W0 X0.out).mono ?_
  rintro e w1 ⟨rfl, x1⟩
  have X1 := hide (X0.out.trans x1)
  have cB := (B0.out.ext x1).cell
  have u3 : w1.cell? ⟨bb, off + k * 4 + 3, none⟩ = some (.int .i64 y) := (X1.out.cell hbb).trans U3.out
  clear x1 FE
  by_cases m1 : mark = 1
  · have HF : Hid (R = y * kp / 100) := by show _ = _; rw [E0.out, if_pos m1]
    subst m1
    clear E0
    go_wp2
    go_ret
    exact ⟨ret_int HF.out.symm, X1.out⟩
  have b1 : (mark == 1) = false := by simp [m1]
  by_cases m2 : mark = 2
  · have HF : Hid (R = y * 9 / 10) := by show _ = _; rw [E0.out, if_neg m1, if_pos m2]
    subst m2
    clear E0 b1 m1
    go_wp2
    go_ret
    exact ⟨ret_int HF.out.symm, X1.out⟩
  have b2 : (mark == 2) = false := by simp [m2]
  by_cases m3 : mark = 3
  · have HF : Hid (R = 0) := by show _ = _; rw [E0.out, if_neg m1, if_neg m2, if_pos m3]
    subst m3
    clear E0 b1 m1 b2 m2
    go_wp2
    go_ret
    exact ⟨ret_int HF.out.symm, X1.out⟩
  have b3 : (mark == 3) = false := by simp [m3]
  have HF : Hid (R = y) := by show _ = _; rw [E0.out, if_neg m1, if_neg m2, if_neg m3]
  clear E0 m1 m2 m3
  go_wp2
  go_ret
  exact ⟨ret_int HF.out.symm, X1.out⟩
end Go.Proofs.Ytmckompikbechaa
