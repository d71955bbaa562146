/- CountSingles by the program. -/
import Derived.Test.YtmckompikbechaaPK
import Derived.Test.YtmckompikbechaaRV
namespace Go.Proofs.Ytmckompikbechaa
open Go.RowKit Go.Sort
set_option linter.unusedVariables false

set_option maxHeartbeats 1000000 in
theorem i.choose_any (n k : Nat) (w : World) (hn : n ≤ 24) (hk : k ≤ n) :
    Calls Try.prog 91 #[.int .i64 n, .int .i64 k] w fun e w' => e = .returned (.int .i64 (bin n k : Nat)) ∧ w = w' := by
  have B0 : Hid (bin n 0 = 1) := bin_zero n
  go_enter Try.func91, Try.ntmps91
  go_wp2
  go_loop [5, 8] (fun o i0 => ∃ i : Nat, i ≤ k ∧ i0 = .int .i64 i ∧ o = .int .i64 (bin n i : Nat)) (fun _ i0 => k - (intOf i0).toNat)
  case atStart => exact ⟨0, Nat.zero_le _, rfl, by rw [B0.out]; rfl⟩
  case round =>
    obtain ⟨i, hi, rfl, rfl⟩ := hrel
    by_cases hlt : i < k
    · have hb := bin24 hn i
      have HQ := hide (bin_quo (n := n) (k := i) (by omega))
      have b0 : (0 : Int) ≤ (bin n i : Int) * ((n : Int) - i) := Int.mul_nonneg (by omega) (by omega)
      have b1 : (bin n i : Int) * ((n : Int) - i) ≤ (bin n i : Int) * 24 := Int.mul_le_mul_of_nonneg_left (by omega) (by omega)
      have b2 : (bin n i : Int) * ((n : Int) - i) ≤ 1000000000 := by omega
      clear b1
      generalize bin n i = Q at *
      go_wp2
      go_round
      case rel => exact ⟨i + 1, by omega, by go_num, by rw [HQ.out]⟩
      case measure => simp [intOf]; omega
    · have ek : k = i := by omega
      subst ek
      go_wp2
      go_ret
      exact ⟨rfl, rfl⟩

/-- The row of the next choices while the program works: the rounds before h done, of the round h the first k terms. -/
def accW (ways : Nat → Nat) (s l n h k x : Nat) : Nat := sumTo (fun h' => addW ways s l n h' x) h + (if h ≤ x ∧ x - h < k then addW ways s l n h x else 0)
theorem accW_start (ways : Nat → Nat) (s l n h x : Nat) : accW ways s l n h 0 x = sumTo (fun h' => addW ways s l n h' x) h := by
  unfold accW
  rw [if_neg (by omega), Nat.add_zero]
theorem accW_end {ways : Nat → Nat} {s l n h k : Nat} (hk : min (min s l) (n - h) < k) (x : Nat) : accW ways s l n h k x = sumTo (fun h' => addW ways s l n h' x) (h + 1) := by
  unfold accW
  rw [sumTo]
  congr 1
  by_cases hx : h ≤ x ∧ x - h < k
  · rw [if_pos hx]
  · rw [if_neg hx]
    unfold addW
    rw [if_neg (by omega)]
theorem accW_step {ways : Nat → Nat} {s l n h k : Nat} (hk : k ≤ min (min s l) (n - h)) : accW ways s l n h (k + 1) (h + k) = accW ways s l n h k (h + k) + ways h * bin s k := by
  unfold accW
  rw [if_pos (by omega), if_neg (by omega), Nat.add_zero]
  congr 1
  unfold addW
  rw [show h + k - h = k by omega, if_pos (by omega)]
theorem accW_other {ways : Nat → Nat} {s l n h k x : Nat} (hx : x ≠ h + k) : accW ways s l n h (k + 1) x = accW ways s l n h k x := by
  unfold accW
  congr 1
  by_cases h1 : h ≤ x ∧ x - h < k
  · rw [if_pos h1, if_pos (by omega)]
  · rw [if_neg h1, if_neg (by omega)]
theorem accW_bd {ways : Nat → Nat} {s l n h k x : Nat} (hw : ∀ i, ways i ≤ 16777216) (hs : s ≤ 24) (hh : h ≤ 14) : accW ways s l n h k x ≤ 4222124650659840 := by
  have h1 : ∀ h', addW ways s l n h' x ≤ 281474976710656 := fun h' => Nat.le_trans (addW_le s l n h' x hw) (Nat.le_trans (Nat.mul_le_mul_left _ (Nat.pow_le_pow_right (by decide) hs)) (by decide))
  have h2 := sumTo_le (g := fun h' => addW ways s l n h' x) h (fun i _ => h1 i)
  have h3 := h1 h
  have h4 : h * 281474976710656 ≤ 14 * 281474976710656 := Nat.mul_le_mul_right _ hh
  unfold accW
  split <;> omega
theorem accW_all (d : CoD) (f n x : Nat) (hx : x ≤ n) : sumTo (fun h' => addW (cntW d f) (szE d f) (limE d f) n h' x) (n + 1) = cntW d (f + 1) x := by
  rw [conv_eq _ _ _ _ _ hx, cntW_succ]
theorem szA_szE (d : CoD) (f : Nat) : szA d d.1.length f = (szE d f : Nat) := rfl
theorem OwnI.made1 (w : World) {lo : Nat} (n : Nat) (hn : n ≤ 1048576) (hlo : lo ≤ w.heap.size) : OwnI 3 (w.alloc (.cells ((madeCells #[.int .i64 0] (n + 1)).setIfInBounds 0 (.int .i64 1)) 3)) lo (some ⟨w.heap.size, 0, none⟩) (n + 1) (n + 1) (rowN (fun x => if x = 0 then 1 else 0) n) := by
  have h := World.ownsRow_lit (e := 3) (size := 1) (base := lo) w ((madeCells #[.int .i64 0] (n + 1)).setIfInBounds 0 (.int .i64 1)) (n + 1) hlo (by unfold maxLen; omega) (by simp [madeCells])
  rw [Array.toList_setIfInBounds, made_zeroR] at h
  have e : rowN (fun x => if x = 0 then 1 else 0) n = (List.replicate (n + 1) (0 : Int)).set 0 1 := by
    rw [rowN_set (g := fun _ => 0) (Nat.zero_le n) (fun x _ hx => by simp [hx]), rowN_zero]
    simp
  show Own _ _ _ _ _ _ _
  rw [e, List.map_set]
  exact h
theorem min3 (X Y Z : Int) : (if Z < (if Y < X then Y else X) then Z else (if Y < X then Y else X)) = min (min X Y) Z := by
  split <;> split <;> omega

set_option maxRecDepth 100000 in
set_option maxHeartbeats 4000000 in
theorem i.CountSingles_law (w : World) (v : Value) (d : CoD) (n0 : Int) (h : kC.rd w v d) (hok : kC.ok d) (_hn : InR n0) :
    Calls Try.prog 35 #[v, .int .i64 n0] w fun e w' => e = .returned (.tuple #[.int .i64 (countF d n0).1, .bool (countF d n0).2]) ∧ Ext w w' := by
  obtain ⟨Ac, cc, Al, cl, rfl, _, hll⟩ := kC.lr h
  obtain ⟨F, hF⟩ : ∃ F, Hid (countF d n0 = F) := ⟨_, rfl⟩
  rw [hF.out]
  have FS0 := hide (fun (hd : CodeOk d) (wq : World) (xq : Ext w wq) => i.familySizes_m wq _ d (kC.rd_ext h xq) hd)
  have LI := hide hll
  have a1 := hll.1; have a2 := hll.2.1
  obtain ⟨nc, NC⟩ : ∃ z, Hid (d.1.length = z) := ⟨_, rfl⟩
  obtain ⟨nl, NL⟩ : ∃ z, Hid (d.2.1.length = z) := ⟨_, rfl⟩
  obtain ⟨r, RN⟩ : ∃ z, Hid (d.2.2.1 = z) := ⟨_, rfl⟩
  obtain ⟨b, BN⟩ : ∃ z, Hid (d.2.2.2.1 = z) := ⟨_, rfl⟩
  obtain ⟨p, PN⟩ : ∃ z, Hid (d.2.2.2.2.1 = z) := ⟨_, rfl⟩
  obtain ⟨f, FN⟩ : ∃ z, Hid (d.2.2.2.2.2 = z) := ⟨_, rfl⟩
  have SZE : Hid (∀ f, f < 5 → (szL d nc).getD f 0 = (szE d f : Nat)) := fun f hf => by rw [szL_at d nc hf, ← NC.out]; rfl
  rw [NC.out, NL.out, RN.out, BN.out, PN.out, FN.out] at h FS0 ⊢
  rw [NL.out] at a1
  obtain ⟨W0, hW0⟩ : ∃ W0, Hid (W0 = w.alloc (.cells #[.slice Ac nc cc, .slice Al nl cl, .int .i64 r, .int .i64 b, .int .i64 p, .int .i64 f] 59)) := ⟨_, rfl⟩
  have X0 : Hid (Ext w W0) := by rw [hW0.out]; exact Ext.alloc w _
  have B0 : Hid (Blk W0 w.heap.size #[.slice Ac nc cc, .slice Al nl cl, .int .i64 r, .int .i64 b, .int .i64 p, .int .i64 f] 59) := by rw [hW0.out]; exact Blk.new rfl _ _
  have CQ := hide (i.IsCode_m W0 _ d (kC.rd_ext h X0.out) hok)
  clear h hok hll
  go_enter Try.func35, Try.ntmps35
  go_wp2_with fail
  rw [← hW0.out]
  clear hW0
  refine CQ.out.mono ?_
  rintro e w1 ⟨rfl, x1⟩
  have X1 := hide (X0.out.trans x1)
  have B1 := hide (B0.out.ext x1)
  clear x1 CQ X0 B0
  cases hc : codeB d
  · have HF : Hid (F = (0, false)) := by show _ = _; rw [← hF.out]; simp [countF, hc]
    clear hc
    go_wp2
    go_ret2
    rw [HF.out]
    exact ⟨rfl, X1.out⟩
  have HC := hide (codeB_ok hc)
  cases hi : inB 1 14 n0
  · have HF : Hid (F = (0, false)) := by show _ = _; rw [← hF.out]; simp [countF, hi]
    have HI := hide hi
    clear hc hi
    go_wp2_with (go_at_call 90; refine (i.isCount_any _ _).mono ?_; rintro e w' ⟨rfl, rfl⟩; rw [HI.out])
    go_ret2
    rw [HF.out]
    exact ⟨rfl, X1.out⟩
  have HF : Hid (F = (((cntW d 5 n0.toNat : Nat) : Int), true)) := by show _ = _; rw [← hF.out]; simp [countF, hc, hi]
  have HI := hide hi
  have hb := inB_ok hi
  obtain ⟨n, hn⟩ : ∃ n : Nat, n0 = n := ⟨n0.toNat, by omega⟩
  subst hn
  rw [Int.toNat_natCast] at HF
  have n1 : 1 ≤ n := by omega
  have n14 : n ≤ 14 := by omega
  have l5 := HC.out.lim
  rw [NL.out] at l5
  subst l5
  have h24 := HC.out.n2
  rw [NC.out] at h24
  clear hc hi hb hF
  have WB := hide (fun f (hf : f ≤ 5) => cntW_le HC.out hf)
  have SB := hide (fun f (hf : f < 5) => show szE d f ≤ 24 by have := szE_le HC.out hf; omega)
  have MKR := hide (fun w => run_make_row' (P := Try.prog) 51 3 (.int .i64 0) 8 Try.underlying51 (by kernel_rfl) rfl .i64 .i64 (n + 1) (by omega) (by omega) w)
  have nn : ((n : Int) + 1) = ((n + 1 : Nat) : Int) := by omega
  rw [← nn] at MKR
  clear nn
  have mkr := MKR.out
  have cm0 : Hid ((madeCells #[Value.int .i64 0] (n + 1))[0]? = some (.int .i64 0)) := by
    show _ = _
    have h := congrArg (·[0]?) (made_zeroR (n + 1))
    simpa using h
  obtain ⟨W1, hW1⟩ : ∃ W1, Hid (W1 = w1.alloc (.cells ((madeCells #[.int .i64 0] (n + 1)).setIfInBounds 0 (.int .i64 1)) 3)) := ⟨_, rfl⟩
  have XA : Hid (Ext w1 W1) := by rw [hW1.out]; exact Ext.alloc _ _
  have OA : Hid (OwnI 3 W1 w1.heap.size (some ⟨w1.heap.size, 0, none⟩) (n + 1) (n + 1) (rowN (cntW d 0) n)) := by rw [hW1.out]; exact OwnI.made1 w1 n (by omega) (Nat.le_refl _)
  have BA := hide (B1.out.ext XA.out)
  have XB := hide (X1.out.trans XA.out)
  have FSQ := hide (FS0.out HC.out W1 XB.out)
  have cB := BA.out.cell
  rw [hW1.out] at cB
  clear FS0
  have cm := cm0.out
  go_wp2_with (go_at_call 90; refine (i.isCount_any _ _).mono ?_; rintro e w' ⟨rfl, rfl⟩; rw [HI.out])
  rw [← hW1.out]
  clear hW1 cB cm
  refine FSQ.out.mono ?_
  rintro e w2 ⟨A7, c7, rfl, o7, x2⟩
  obtain ⟨g7, rfl, hg1, hg2, _⟩ := OwnI.pos o7 (by omega)
  have O7 := hide o7
  have oc1 := o7.capn; have oc2 := o7.capm
  have za := XA.out.size
  have z1 := X1.out.size
  have OB : Hid (OwnI 3 w2 w1.heap.size (some ⟨w1.heap.size, 0, none⟩) (n + 1) (n + 1) (rowN (cntW d 0) n)) := OwnI.below OA.out x2 (Nat.le_refl _)
  have GL : Hid (w1.heap.size < W1.heap.size) := by
    rcases OwnI.form OA.out with ⟨h, _⟩ | ⟨g', h, _, h2, _⟩
    · cases h
    · injection h with h; injection h with h; subst h; exact h2
  have X2 := hide (XA.out.trans x2)
  have B2 := hide (BA.out.ext x2)
  have zl := B1.out.lt
  clear o7 x2 FSQ OA XB BA mkr
  obtain ⟨bl, ol, rfl, hbl, hcl⟩ := SlI.cells LI.out.sl (by have := HC.out.lim; omega)
  have CLm : Hid (∀ (wq : World), Ext w wq → ∀ f, f < 5 → wq.cell? ⟨bl, ol + f, none⟩ = some (.int .i64 (d.2.1.getD f 0))) := fun wq xq f hf => (xq.cell hbl).trans (hcl f (by have := HC.out.lim; omega))
  clear hcl
  go_wp2
  go_loopw [6, 29] (fun o i0 wr => ∃ (f g : Nat), f ≤ 5 ∧ i0 = .int .i64 f ∧ o = .slice (some ⟨g, 0, none⟩) (n + 1) (n + 1) ∧ OwnI 3 wr w1.heap.size (some ⟨g, 0, none⟩) (n + 1) (n + 1) (rowN (cntW d f) n) ∧ g ≠ g7 ∧ OwnI 3 wr W1.heap.size (some ⟨g7, 0, none⟩) 5 c7 (szL d nc) ∧ Ext w1 wr) (fun _ i0 _ => 5 - (intOf i0).toNat)
  case atStart => exact ⟨0, w1.heap.size, Nat.zero_le _, rfl, rfl, OB.out, by have := GL.out; omega, O7.out, X2.out⟩
  case round =>
    obtain ⟨ff, g, hf5, rfl, rfl, hw, hne, h7, hx⟩ := hrel
    have OW := hide hw
    clear OB O7 X2
    have O7 := hide h7
    have HX := hide hx
    clear hw h7 hx
    obtain ⟨wo, rfl⟩ : ∃ wo : World, wo = wr := ⟨_, rfl⟩
    have BO := hide (B1.out.ext HX.out)
    by_cases hlt : ff < 5
    · have c7_ := O7.out.cell ff hlt
      rw [SZE.out ff hlt] at c7_
      have WBf := hide (WB.out ff (by omega))
      have SBf := SB.out ff hlt
      have lb := limE_eq HC.out hlt
      have lb2 := lb.2.1; have lb3 := lb.2.2
      obtain ⟨lm, hlm⟩ : ∃ lm, Hid (limE d ff = lm) := ⟨_, rfl⟩
      have lb1 := hide lb.1
      rw [hlm.out] at lb1
      rw [← lb1.out] at lb2 lb3
      clear lb
      obtain ⟨s, hs⟩ : ∃ s, Hid (szE d ff = s) := ⟨_, rfl⟩
      rw [hs.out] at c7_ SBf
      obtain ⟨ways, hwy⟩ : ∃ ways, Hid (cntW d ff = ways) := ⟨_, rfl⟩
      have AA := hide (accW_all d ff n)
      rw [hwy.out, hs.out, hlm.out] at AA
      rw [hwy.out] at OW WBf
      obtain ⟨w3, hw3⟩ : ∃ w3, Hid (w3 = wo.alloc (.cells (madeCells #[.int .i64 0] (n + 1)) 3)) := ⟨_, rfl⟩
      have X3 : Hid (Ext wo w3) := by rw [hw3.out]; exact Ext.alloc _ _
      have zo := HX.out.size
      have g3 : Hid (wo.heap.size < w3.heap.size) := by rw [hw3.out]; show _ < _; simp
      have ON : Hid (OwnI 3 w3 w1.heap.size (some ⟨wo.heap.size, 0, none⟩) (n + 1) (n + 1) (rowN (accW ways s lm n 0 0) n)) := by
        rw [show rowN (accW ways s lm n 0 0) n = rowN (fun _ => 0) n from rowN_congr (fun x _ => by rw [accW_start]; rfl), rowN_zero, hw3.out]
        exact OwnI.made wo (n + 1) (by omega) zo
      have gw : g < wo.heap.size := by
        rcases OwnI.form OW.out with ⟨h, _⟩ | ⟨g', h, _, h2, _⟩
        · cases h
        · injection h with h; injection h with h; subst h; exact h2
      have g7w : g7 < wo.heap.size := by
        rcases OwnI.form O7.out with ⟨h, _⟩ | ⟨g', h, _, h2, _⟩
        · cases h
        · injection h with h; injection h with h; subst h; exact h2
      have OW3 := hide (OwnI.below OW.out X3.out (Nat.le_refl _))
      have O73 := hide (OwnI.below O7.out X3.out (Nat.le_refl _))
      have HX3 := hide (HX.out.trans X3.out)
      obtain ⟨G, hG⟩ : ∃ G, Hid (G = wo.heap.size) := ⟨_, rfl⟩
      have mkr := MKR.out wo
      rw [← hw3.out, ← hG.out] at mkr
      rw [← hG.out] at ON g3 gw g7w
      have Gg : w1.heap.size ≤ G := by rw [hG.out]; exact zo
      have i1 : (ff : Int) < 5 := by omega
      go_wp2
      clear mkr c7_
      go_loopw [39] (fun i0 wr => ∃ (hv : Nat), hv ≤ n + 1 ∧ i0 = .int .i64 hv ∧ OwnI 3 wr w1.heap.size (some ⟨G, 0, none⟩) (n + 1) (n + 1) (rowN (accW ways s lm n hv 0) n) ∧ OwnI 3 wr w1.heap.size (some ⟨g, 0, none⟩) (n + 1) (n + 1) (rowN ways n) ∧ OwnI 3 wr W1.heap.size (some ⟨g7, 0, none⟩) 5 c7 (szL d nc) ∧ Ext w1 wr) (fun i0 _ => n + 1 - (intOf i0).toNat)
      case atStart => exact ⟨0, Nat.zero_le _, rfl, ON.out, OW3.out, O73.out, HX3.out⟩
      case round =>
        obtain ⟨hv, hh, rfl, hn', hw', h7', hx'⟩ := hrel
        clear ON OW3 O73 HX3
        have ON := hide hn'
        have OW3 := hide hw'
        have O73 := hide h7'
        have HX3 := hide hx'
        clear hn' hw' h7' hx'
        obtain ⟨w4, rfl⟩ : ∃ w4 : World, w4 = wr := ⟨_, rfl⟩
        by_cases hlh : hv < n + 1
        · have cw := OW3.out.cell hv hlh
          rw [rowN_at ways (by omega)] at cw
          have wb := WBf.out hv
          obtain ⟨Wh, HW⟩ : ∃ Wh, Hid (ways hv = Wh) := ⟨_, rfl⟩
          rw [HW.out] at cw wb
          have ih : (hv : Int) < (n : Int) + 1 := by omega
          go_wp2
          clear cw
          go_loopw [12] (fun i0 wr => ∃ (k : Nat), k ≤ min (min s lm) (n - hv) + 1 ∧ i0 = .int .i64 k ∧ OwnI 3 wr w1.heap.size (some ⟨G, 0, none⟩) (n + 1) (n + 1) (rowN (accW ways s lm n hv k) n) ∧ OwnI 3 wr w1.heap.size (some ⟨g, 0, none⟩) (n + 1) (n + 1) (rowN ways n) ∧ OwnI 3 wr W1.heap.size (some ⟨g7, 0, none⟩) 5 c7 (szL d nc) ∧ Ext w1 wr) (fun i0 _ => n + 2 - (intOf i0).toNat)
          case atStart => exact ⟨0, Nat.zero_le _, rfl, ON.out, OW3.out, O73.out, HX3.out⟩
          case round =>
            obtain ⟨k, hk, rfl, hn', hw', h7', hx'⟩ := hrel
            clear ON OW3 O73 HX3
            have ON := hide hn'
            have OW3 := hide hw'
            have O73 := hide h7'
            have HX3 := hide hx'
            clear hn' hw' h7' hx'
            have cB := (B1.out.ext HX3.out).cell
            have cL := CLm.out wr (X1.out.trans HX3.out) ff hlt
            rw [← lb1.out] at cL
            obtain ⟨M, hM⟩ : ∃ M : Nat, min (min s lm) (n - hv) = M := ⟨_, rfl⟩
            have m3 : (if (n : Int) - hv < (if lm < s then (lm : Int) else s) then (n : Int) - hv else (if lm < s then (lm : Int) else s)) = (M : Int) := by split <;> split <;> omega
            have HM := hide hM
            have mb : M ≤ n - hv := by omega
            have mb2 : M ≤ s := by omega
            clear hM
            rw [HM.out] at hk
            by_cases hlk : k ≤ M
            · have lk : (k : Int) ≤ M := by omega
              have AS := hide (accW_step (ways := ways) (s := s) (l := lm) (n := n) (h := hv) (k := k) (by rw [HM.out]; exact hlk))
              have ab := accW_bd (k := k) (x := hv + k) WBf.out SBf (l := lm) (n := n) (h := hv) (by omega)
              have cN := ON.out.cell (hv + k) (by omega)
              rw [rowN_at _ (by omega)] at cN
              have fN := ON.out.free (hv + k)
              have bb := bin24 SBf k
              have RS : Hid (rowN (accW ways s lm n hv (k + 1)) n = (rowN (accW ways s lm n hv k) n).set (hv + k) ((accW ways s lm n hv k (hv + k) + ways hv * bin s k : Nat) : Int)) := by
                show _ = _
                rw [rowN_set (g := accW ways s lm n hv k) (show hv + k ≤ n by omega) (fun x _ hx => accW_other hx), AS.out]
              generalize accW ways s lm n hv k (hv + k) = Q at *
              generalize hb : bin s k = Bk at *
              have HB := hide hb
              clear hb
              rw [HW.out] at AS RS
              have p0 : (0 : Int) ≤ (Wh : Int) * (Bk : Int) := Int.mul_nonneg (by omega) (by omega)
              have p1 : (Wh : Int) * (Bk : Int) ≤ (Wh : Int) * 16777216 := Int.mul_le_mul_of_nonneg_left (by omega) (by omega)
              have p2 : (Wh : Int) * (Bk : Int) ≤ 281474976710656 := by omega
              have RC : Hid (((Q + Wh * Bk : Nat) : Int) = (Q : Int) + (Wh : Int) * (Bk : Int)) := by show _ = _; rw [Int.natCast_add, Int.natCast_mul]
              rw [RC.out] at RS
              have e1 : (hv : Int) + k ≤ n := by omega
              have e0 : 0 ≤ (hv : Int) + k := by omega
              have e2 : (hv : Int) + k < (n : Int) + 1 := by omega
              have e3 : ((hv : Int) + k).toNat = hv + k := by omega
              have kw1 : IntKind.i64.wrap ((hv : Int) + k) = (hv : Int) + k := IntWalk.i64_in _ (by omega)
              have kw2 : IntKind.i64.wrap ((Wh : Int) * (Bk : Int)) = (Wh : Int) * (Bk : Int) := IntWalk.i64_in _ (by omega)
              have kw3 : IntKind.i64.wrap ((Q : Int) + (Wh : Int) * (Bk : Int)) = (Q : Int) + (Wh : Int) * (Bk : Int) := IntWalk.i64_in _ (by omega)
              have CH := hide (fun w => HB.out ▸ i.choose_any s k w SBf (by omega))
              clear p1
              go_wp2
              clear m3 cB cL
              go_region_law
                (first | (go_simp; go_at_call 91; refine (CH.out _).mono ?_; rintro e w5 ⟨rfl, rfl⟩))
              all_goals
                have gne : g ≠ G := by omega
                have g7ne : g7 ≠ G := by omega
                have O5 : Hid (OwnI 3 (wr.setCell ⟨G, hv + k, none⟩ (.int .i64 ((Q : Int) + (Wh : Int) * (Bk : Int)))).drew w1.heap.size (some ⟨G, 0, none⟩) (n + 1) (n + 1) (rowN (accW ways s lm n hv (k + 1)) n)) := by
                  rw [RS.out]
                  exact Own.drew (OwnI.set ON.out (hv + k) _)
                have OW5 : Hid (OwnI 3 (wr.setCell ⟨G, hv + k, none⟩ (.int .i64 ((Q : Int) + (Wh : Int) * (Bk : Int)))).drew w1.heap.size (some ⟨g, 0, none⟩) (n + 1) (n + 1) (rowN ways n)) := Own.drew (Own.far OW3.out (fun a ha => by injection ha with ha; subst ha; exact gne) _)
                have O75 : Hid (OwnI 3 (wr.setCell ⟨G, hv + k, none⟩ (.int .i64 ((Q : Int) + (Wh : Int) * (Bk : Int)))).drew W1.heap.size (some ⟨g7, 0, none⟩) 5 c7 (szL d nc)) := Own.drew (Own.far O73.out (fun a ha => by injection ha with ha; subst ha; exact g7ne) _)
                have X5 : Hid (Ext w1 (wr.setCell ⟨G, hv + k, none⟩ (.int .i64 ((Q : Int) + (Wh : Int) * (Bk : Int)))).drew) := Ext.trans (Below.setCell HX3.out (by show _ ≤ G; exact Gg) _) (Ext.drew _)
                clear kw1 kw2 kw3 cN fN p0 p2
                generalize (wr.setCell ⟨G, hv + k, none⟩ (.int .i64 ((Q : Int) + (Wh : Int) * (Bk : Int)))).drew = w6 at *
                go_wp2
                go_roundw
                case rel => exact ⟨k + 1, by rw [HM.out]; omega, by go_num, O5.out, OW5.out, O75.out, X5.out⟩
                case measure => simp [intOf]; omega
            · have lk : (M : Int) < k := by omega
              have AE : Hid (rowN (accW ways s lm n hv k) n = rowN (accW ways s lm n (hv + 1) 0) n) := by
                show _ = _
                exact rowN_congr (fun x _ => by rw [accW_start, accW_end (by rw [HM.out]; omega)])
              rw [AE.out] at ON
              go_wp2
              go_roundw
              case rel => exact ⟨hv + 1, by omega, by go_num, ON.out, OW3.out, O73.out, HX3.out⟩
              case measure => simp [intOf]; omega
        · have AE : Hid (rowN (accW ways s lm n hv 0) n = rowN (cntW d (ff + 1)) n) := by
            show _ = _
            have eh : hv = n + 1 := by omega
            subst eh
            exact rowN_congr (fun x hx => by rw [accW_start, AA.out x hx])
          rw [AE.out] at ON
          go_wp2
          go_roundw
          case rel => exact ⟨ff + 1, G, by omega, by go_num, rfl, ON.out, by omega, O73.out, HX3.out⟩
          case measure => simp [intOf]; omega
    · have ek : ff = 5 := by omega
      subst ek
      have cN := OW.out.cell n (by omega)
      rw [rowN_at _ (Nat.le_refl _)] at cN
      go_wp2
      go_ret2
      rw [HF.out]
      exact ⟨rfl, X1.out.trans HX.out⟩
end Go.Proofs.Ytmckompikbechaa
