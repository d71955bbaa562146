import Derived.Test.YteagigjljejjiaaTH
namespace Go.Proofs.Yteagigjljejjiaa
open Go.RowKit
set_option linter.unusedVariables false

theorem quiet_of_l {P : Program} {f : FuncId} {args : Array Value} {w : World} {n : Nat} {v : Value}
    (h : Calls P f args (w.drewN n) fun e w' => e = .returned v ∧ w.drewN n = w') : Calls P f args (w.drewN n) fun e w'' => e = .returned v ∧ ∃ m, w'' = w.drewN m :=
  h.mono fun _ _ ⟨he, hm⟩ => ⟨he, n, hm.symm⟩

/-- The result of IsTrimmed. -/
def isTrimmedF (zs : List Int) (k : Int) : Bool × Bool := if hasMark zs k then (decide (5 ≤ zs.length) && (zs.getD k.toNat 0 == maxL zs || zs.getD k.toNat 0 == minL zs), true) else (false, false)

set_option maxHeartbeats 1000000 in
theorem i.IsTrimmed_law (w : World) (v : Value) (z0 : List Int) (k : Int) (h : kI.rd w v z0) (hok : kI.ok z0) (_h1 : InR k) :
    Calls Try.prog 25 #[v, .int .i64 k] w fun e w' => e = .returned (.tuple #[.bool (isTrimmedF z0 k).1, .bool (isTrimmedF z0 k).2]) ∧ Ext w w' := by
  obtain ⟨A, c, rfl, h, hnc, hcm⟩ := h
  have hn : z0.length ≤ 1048576 := hok
  cases h1 : hasMark z0 k
  · have HF : Hid (isTrimmedF z0 k = (false, false)) := by show _ = _; simp [isTrimmedF, h1]
    rw [HF.out]
    go_enter Try.func25, Try.ntmps25
    go_wp2_with (go_at_call 46; refine (i.isMarkOf_any _ _ _ _ z0 _ _ h hn).mono ?_; rintro e w1 ⟨rfl, rfl⟩)
    go_ret2
    exact ⟨rfl, Ext.refl _⟩
  · obtain ⟨_, _, _, hk0, hk1⟩ := hasMark_ok h1
    obtain ⟨j, rfl⟩ := Int.eq_ofNat_of_zero_le hk0
    have hj : j < z0.length := by omega
    have HF : Hid (isTrimmedF z0 (j : Int) = (decide (5 ≤ z0.length) && (z0.getD j 0 == maxL z0 || z0.getD j 0 == minL z0), true)) := by show _ = _; simp [isTrimmedF, h1]
    rw [HF.out]
    obtain ⟨b, off, rfl, hb, hc⟩ := h.cells (by omega)
    have hck := hc j hj
    clear hc
    have hx0 : (j : Int) < z0.length := by omega
    have hMx := fun w' (hw : SlI w' w.heap.size (some ⟨b, off, none⟩) z0.length z0) => slicesMax_any _ _ c _ z0 w' hw hn (by omega)
    have hMn := fun w' (hw : SlI w' w.heap.size (some ⟨b, off, none⟩) z0.length z0) => slicesMin_any _ _ c _ z0 w' hw hn (by omega)
    have HMx := hide hMx
    have HMn := hide hMn
    clear hMx hMn
    generalize z0.getD j 0 = x at *
    generalize maxL z0 = M at *
    generalize minL z0 = m at *
    by_cases h5 : 5 ≤ z0.length
    · have d5 : decide ((5 : Int) ≤ z0.length) = true := by simp; omega
      cases e1 : (x == M)
      · go_enter Try.func25, Try.ntmps25
        go_wp2_with (go_at_call 46; refine (i.isMarkOf_any _ _ _ _ z0 _ _ h hn).mono ?_; rintro e w1 ⟨rfl, rfl⟩)
        go_quiet ((first | (go_at_call 52; exact quiet_of_l (HMx.out _ h)) | (go_at_call 53; exact quiet_of_l (HMn.out _ h))))
        go_wp2
        go_ret2
        exact ⟨by simp [h5], Ext.drewN _ _⟩
      · go_enter Try.func25, Try.ntmps25
        go_wp2_with (go_at_call 46; refine (i.isMarkOf_any _ _ _ _ z0 _ _ h hn).mono ?_; rintro e w1 ⟨rfl, rfl⟩)
        go_quiet ((first | (go_at_call 52; exact quiet_of_l (HMx.out _ h)) | (go_at_call 53; exact quiet_of_l (HMn.out _ h))))
        go_wp2
        go_ret2
        exact ⟨by simp [h5], Ext.drewN _ _⟩
    · have d5 : decide ((5 : Int) ≤ z0.length) = false := by simp; omega
      go_enter Try.func25, Try.ntmps25
      go_wp2_with (go_at_call 46; refine (i.isMarkOf_any _ _ _ _ z0 _ _ h hn).mono ?_; rintro e w1 ⟨rfl, rfl⟩)
      go_quiet (fail)
      go_wp2
      go_ret2
      exact ⟨by simp [h5], Ext.drewN _ _⟩

theorem getD_rev_zero (l : List Int) (h : 0 < l.length) : l.reverse.getD 0 0 = l.getD (l.length - 1) 0 := by
  simp [List.getElem?_reverse h]
theorem getD_rev_last (l : List Int) (h : 0 < l.length) : l.reverse.getD (l.length - 1) 0 = l.getD 0 0 := by
  rw [List.getD_eq_getElem?_getD, List.getElem?_reverse (by omega)]
  simp

set_option maxHeartbeats 1000000 in
theorem s.IsTrimmed_law (w : World) (v : Value) (z0 : List Int) (k : Int) (h : kI.rd w v z0) (hok : kI.ok z0) (_h1 : InR k) :
    Calls Try.prog 24 #[v, .int .i64 k] w fun e w' => e = .returned (.tuple #[.bool (isTrimmedF z0 k).1, .bool (isTrimmedF z0 k).2]) ∧ Ext w w' := by
  obtain ⟨A, c, rfl, h, hnc, hcm⟩ := h
  have hn : z0.length ≤ 1048576 := hok
  cases h1 : hasMark z0 k
  · have HF : Hid (isTrimmedF z0 k = (false, false)) := by show _ = _; simp [isTrimmedF, h1]
    rw [HF.out]
    go_enter Try.func24, Try.ntmps24
    go_wp2_with (go_at_call 43; refine (s.tmHas_any _ _ _ _ z0 _ _ h hn).mono ?_; rintro e w1 ⟨rfl, rfl⟩)
    go_ret2
    exact ⟨rfl, Ext.refl _⟩
  · obtain ⟨_, _, _, hk0, hk1⟩ := hasMark_ok h1
    obtain ⟨j, rfl⟩ := Int.eq_ofNat_of_zero_le hk0
    have hj : j < z0.length := by omega
    have HF : Hid (isTrimmedF z0 (j : Int) = (decide (5 ≤ z0.length) && (z0.getD j 0 == maxL z0 || z0.getD j 0 == minL z0), true)) := by show _ = _; simp [isTrimmedF, h1]
    rw [HF.out]
    have hx0 : (j : Int) < z0.length := by omega
    have hne : z0 ≠ [] := by rintro rfl; simp at hj
    have hsl := sortD_len z0
    have e1 := hide (show (sortD z0).reverse.getD 0 0 = minL z0 by rw [getD_rev_zero _ (by omega), hsl, sortD_last z0 hne])
    have e2 := hide (show (sortD z0).reverse.getD (z0.length - 1) 0 = maxL z0 by rw [← hsl, getD_rev_last _ (by omega), sortD_head z0 hne])
    clear hsl
    obtain ⟨x, hxe⟩ : ∃ x, Hid (z0.getD j 0 = x) := ⟨_, rfl⟩
    rw [hxe.out]
    generalize maxL z0 = M at *
    generalize minL z0 = m at *
    go_enter Try.func24, Try.ntmps24
    go_wp2_with (first | (go_at_call 43; refine (s.tmHas_any _ _ _ _ z0 _ _ h hn).mono ?_; rintro e w1 ⟨rfl, rfl⟩) | (go_at_call 51; refine (s.tmOrder_any _ _ _ _ z0 _ h (Nat.le_refl _) hn).mono ?_; rintro e w1 ⟨S, c1, rfl, ho, hx⟩; have HO := hide ho; have HX := hide hx; clear ho hx))
    obtain ⟨b', off', rfl, hb', hc'⟩ := HO.out.sl.cells (by omega)
    have hc0 : w1.cell? ⟨b', off', none⟩ = some (.int .i64 m) := by have := hc' 0 (by omega); rwa [e1.out] at this
    have hc1 : w1.cell? ⟨b', off' + (z0.length - 1), none⟩ = some (.int .i64 M) := by have := hc' (z0.length - 1) (by omega); rwa [e2.out] at this
    obtain ⟨b, off, rfl, hb, hc⟩ := (h.ext HX.out (Nat.le_refl _)).cells (by omega)
    have hck := hc j hj
    rw [hxe.out] at hck
    clear hc hc' e1 e2
    have i0 : (0 : Int) < z0.length := by omega
    have i1 : IntKind.i64.wrap ((z0.length : Int) - 1) = (z0.length : Int) - 1 := IntWalk.i64_in _ (by omega)
    have i2 : (0 : Int) ≤ (z0.length : Int) - 1 := by omega
    have i2' : (1 : Int) ≤ (z0.length : Int) := by omega
    have i3 : ((z0.length : Int) - 1).toNat = z0.length - 1 := by omega
    have i4 : (z0.length : Int) - 1 < z0.length := by omega
    by_cases h5 : 5 ≤ z0.length
    · have d5 : decide ((5 : Int) ≤ z0.length) = true := by simp; omega
      cases e3 : (x == m)
      · go_wp2
        go_quiet (fail)
        go_wp2
        go_ret2
        exact ⟨by simp [h5, e3], HX.out.trans (Ext.drewN _ _)⟩
      · go_wp2
        go_quiet (fail)
        go_wp2
        go_ret2
        exact ⟨by simp [h5, e3], HX.out.trans (Ext.drewN _ _)⟩
    · have d5 : decide ((5 : Int) ≤ z0.length) = false := by simp; omega
      go_wp2
      go_quiet (fail)
      go_wp2
      go_ret2
      exact ⟨by simp [h5], HX.out.trans (Ext.drewN _ _)⟩
end Go.Proofs.Yteagigjljejjiaa
