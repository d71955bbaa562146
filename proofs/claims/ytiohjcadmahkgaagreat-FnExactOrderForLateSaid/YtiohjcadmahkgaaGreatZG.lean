/- Items without marks, and families within their limits (the program). -/
import Derived.Test.YtiohjcadmahkgaaGreatZF
namespace Go.Proofs.YtiohjcadmahkgaaGreat
open Go.RowKit Go.Sort
set_option linter.unusedVariables false

set_option maxHeartbeats 1000000 in
theorem closUnm (vs : List Value) (x : ItD) (w : World) (hx : kdItem.rd w w.heap.size vs x) (hn : x.2.1.length ≤ 1048576) :
    Calls Tryz.prog 89 #[kdItem.val vs] w fun e w' => e = .returned (.bool (!unmP x)) ∧ Ext w w' := by
  obtain ⟨A1, c1, A2, c2, rfl, h1, h2⟩ := kdItem.open_ hx
  rw [kdItem.val3]
  have X0 := hide (Ext.alloc w (.cells #[.slice A1 x.1.length c1, .slice A2 x.2.1.length c2, .bool x.2.2] 53))
  have AW := hide (i.allWithin_any A2 x.2.1.length c2 w.heap.size x.2.1 0 0 _ (h2.sl.ext X0.out (Nat.le_refl _)) hn)
  have e1 : x.2.1.all (inB 0 0) = unmP x := rfl
  rw [e1] at AW
  have a1 := h1.1; have a2 := h1.2.1; have a3 := h2.1; have a4 := h2.2.1
  clear e1 hx h1 h2
  generalize unmP x = U at *
  generalize x.1.length = m1 at *
  generalize x.2.1.length = m2 at *
  generalize x.2.2 = m3 at *
  go_enter Tryz.func89, Tryz.ntmps89
  go_wp2_with fail
  refine AW.out.mono ?_
  rintro e w1 ⟨rfl, rfl⟩
  cases U
  · go_wp2
    go_ret
    exact ⟨rfl, X0.out⟩
  · go_wp2
    go_ret
    exact ⟨rfl, X0.out⟩

set_option maxRecDepth 100000 in
set_option maxHeartbeats 1000000 in
theorem indexUnm (w : World) (A : Option Addr) (c B : Nat) (xs : List ItD) (h : LR kdItem w B A c xs) (hB : B ≤ w.heap.size) (hwt : wtL kdItem xs ≤ 1048576) :
    Calls Tryz.prog 104 #[.slice A xs.length c, .func (.func 89) #[] #[]] w fun e w' => (∃ q, e = .returned (.int .i64 q) ∧ decide (0 ≤ q) = !(xs.all unmP)) ∧ Ext w w' := by
  have H := hide h
  have HW := hide hwt
  have hlen := wtL_len kdItem xs
  have a1 := h.1; have a2 := h.2.1
  obtain ⟨R, hR⟩ : ∃ R, Hid (xs.all unmP = R) := ⟨_, rfl⟩
  rw [hR.out]
  obtain ⟨n, hn⟩ : ∃ n, Hid (xs.length = n) := ⟨_, rfl⟩
  rw [hn.out] at hlen a1 ⊢
  have n1 : n ≤ 1048576 := by omega
  clear h hwt hlen
  have HEND : Hid (xs.all unmP = true → R = true) := fun h8 => by rw [← hR.out, h8]
  have HSTOP : Hid (xs.all unmP = false → R = false) := fun h8 => by rw [← hR.out, h8]
  clear hR
  go_enter Tryz.func104, Tryz.ntmps104
  go_wp2
  go_loopw [8] (fun i wr => ∃ (k : Nat), k ≤ n ∧ i = .int .i64 k ∧ (xs.take k).all unmP = true ∧ Ext w wr) (fun i _ => n - (intOf i).toNat)
  case atStart => exact ⟨0, Nat.zero_le _, rfl, rfl, Ext.refl _⟩
  case round =>
    obtain ⟨k, hk, rfl, hall, hx⟩ := hrel
    have HA := hide hall
    have HX := hide hx
    clear hall hx
    by_cases hlt : k < n
    · obtain ⟨x, hxk⟩ : ∃ x, Hid (xs[k]? = some x) := get_exP xs k (by rw [hn.out]; exact hlt)
      obtain ⟨b, off, A1, c1, A2, c2, rfl, hb, q0, q1, q2, r1, r2⟩ := (H.out.ext HX.out hB).item k x hxk.out
      have hsz := HX.out.size
      have hx2 := (kdItem.wt_le (Nat.le_trans (wtL_at kdItem xs k x hxk.out) HW.out)).2.1
      have CU := hide (closUnm _ x wr (kdItem.rd_more (kdItem.mk_ r1 r2) (by omega)) hx2)
      rw [kdItem.val3] at CU
      clear r1 r2 hx2
      obtain ⟨U, hU⟩ : ∃ U, Hid (unmP x = U) := ⟨_, rfl⟩
      rw [hU.out] at CU
      generalize x.1.length = m1 at *
      generalize x.2.1.length = m2 at *
      generalize x.2.2 = m3 at *
      go_wp2_with fail
      refine CU.out.mono ?_
      rintro e w2 ⟨rfl, x2⟩
      have HX2 := hide (HX.out.trans x2)
      clear x2 CU q0 q1 q2
      cases U
      · have HF := hide (HSTOP.out (allL_stop hxk.out hU.out))
        go_wp2
        go_ret
        exact ⟨⟨k, rfl, by rw [HF.out]; simp⟩, HX2.out⟩
      · go_wp2
        go_roundw
        case rel => exact ⟨k + 1, by omega, by go_num, allL_step hxk.out HA.out hU.out, HX2.out⟩
        case measure => simp [intOf]; omega
    · have HE := hide (HEND.out (allL_end (by rw [hn.out]; omega) HA.out))
      go_wp2
      go_ret
      exact ⟨⟨-1, rfl, by rw [HE.out]; simp⟩, HX.out⟩
theorem containsUnm (w : World) (A : Option Addr) (c B : Nat) (xs : List ItD) (h : LR kdItem w B A c xs) (hB : B ≤ w.heap.size) (hwt : wtL kdItem xs ≤ 1048576) :
    Calls Tryz.prog 88 #[.slice A xs.length c, .func (.func 89) #[] #[]] w fun e w' => e = .returned (.bool (!(xs.all unmP))) ∧ Ext w w' := by
  have IU := hide (indexUnm w A c B xs h hB hwt)
  generalize xs.length = n at *
  go_enter Tryz.func88, Tryz.ntmps88
  go_wp2_with fail
  refine IU.out.mono ?_
  rintro e w' ⟨⟨q, rfl, hq⟩, hx⟩
  have HQ := hide hq
  have HX := hide hx
  clear hq hx
  go_wp2
  go_ret
  exact ⟨ret_bool HQ.out, HX.out⟩

set_option maxRecDepth 100000 in
set_option maxHeartbeats 2000000 in
theorem i.fitsLimits_m (w : World) (v : Value) (d : CoD) (A : Option Addr) (c B : Nat) (xs : List ItD) (h : kC.rd w v d) (hok : kC.ok d) (hd : CodeOk d) (hi : LR kdItem w B A c xs) (hB : B ≤ w.heap.size) (h14 : xs.length ≤ 14) (h3 : ∀ x ∈ xs, 1 ≤ x.1.length ∧ x.1.length ≤ 3) :
    Calls Tryz.prog 92 #[v, .slice A xs.length c] w fun e w' => e = .returned (.bool (ruleB d xs 6)) ∧ Ext w w' := by
  obtain ⟨Ac, cc, Al, cl, rfl, _, hll⟩ := kC.lr h
  obtain ⟨nc, NC⟩ : ∃ z, Hid (d.1.length = z) := ⟨_, rfl⟩
  have nl5 := hd.lim
  rw [nl5] at h ⊢
  obtain ⟨r, RN⟩ : ∃ z, Hid (d.2.2.1 = z) := ⟨_, rfl⟩
  obtain ⟨b, BN⟩ : ∃ z, Hid (d.2.2.2.1 = z) := ⟨_, rfl⟩
  obtain ⟨p, PN⟩ : ∃ z, Hid (d.2.2.2.2.1 = z) := ⟨_, rfl⟩
  obtain ⟨f, FN⟩ : ∃ z, Hid (d.2.2.2.2.2 = z) := ⟨_, rfl⟩
  rw [NC.out, RN.out, BN.out, PN.out, FN.out] at h ⊢
  have a1 := hi.1; have a2 := hi.2.1
  have b1 := hll.1; have b2 := hll.2.1
  have HLL := hide hll
  have N5 := hide nl5
  have HD := hide hd
  obtain ⟨W0, hW0⟩ : ∃ W0, Hid (W0 = w.alloc (.cells #[.slice Ac nc cc, .slice Al 5 cl, .int .i64 r, .int .i64 b, .int .i64 p, .int .i64 f] 34)) := ⟨_, rfl⟩
  have X0 : Hid (Ext w W0) := by rw [hW0.out]; exact Ext.alloc w _
  have B0 : Hid (Blk W0 w.heap.size #[.slice Ac nc cc, .slice Al 5 cl, .int .i64 r, .int .i64 b, .int .i64 p, .int .i64 f] 34) := by rw [hW0.out]; exact Blk.new rfl _ _
  have FC := hide (i.familyCounts_m W0 _ d A c B xs (kC.rd_ext h X0.out) hok hd (hi.ext X0.out hB) (Nat.le_trans hB X0.out.size) h14 h3)
  have R6 := hide (rule6 d xs)
  have CB := hide (fun k => fcL_bd d xs xs.length k)
  have CA : Hid (∀ k, k < 5 → fitAt d xs k = decide ((fcL d xs xs.length).getD k 0 ≤ d.2.1.getD k 0)) := fun k hk => by
    unfold fitAt
    rw [fcL_at _ _ _ _ hk, List.take_length]
  clear h hi h3 hd hll nl5
  obtain ⟨R, hR⟩ : ∃ R, Hid (ruleB d xs 6 = R) := ⟨_, rfl⟩
  rw [hR.out] at R6 ⊢
  obtain ⟨n, hn⟩ : ∃ n, Hid (xs.length = n) := ⟨_, rfl⟩
  rw [hn.out] at h14 a1 FC CB CA ⊢
  have RA := hide (fun k (hk : k < 5) => (List.getElem?_range hk : (List.range 5)[k]? = some k))
  go_enter Tryz.func92, Tryz.ntmps92
  go_wp2_with fail
  rw [← hW0.out]
  clear hW0
  refine FC.out.mono ?_
  rintro e w1 ⟨A5, c5, rfl, o5, x5⟩
  have O5 := hide o5
  have X5 := hide x5
  have oc1 := o5.capn; have oc2 := o5.capm
  clear o5 x5 FC
  go_wp2
  go_loopw [11] (fun i wr => ∃ (k : Nat), k ≤ 5 ∧ i = .int .i64 k ∧ ((List.range 5).take k).all (fitAt d xs) = true ∧ Ext w1 wr) (fun i _ => 5 - (intOf i).toNat)
  case atStart => exact ⟨0, Nat.zero_le _, rfl, rfl, Ext.refl _⟩
  case round =>
    obtain ⟨k, hk, rfl, hall, hx⟩ := hrel
    have HA := hide hall
    have HX := hide hx
    clear hall hx
    by_cases hlt : k < 5
    · have XA := hide (X5.out.trans HX.out)
      have OK := hide (OwnI.below O5.out HX.out (Nat.le_refl _))
      obtain ⟨g, rfl, hg1, hg2, _⟩ := OwnI.pos OK.out (by omega)
      have cO := OwnI.cell OK.out k hlt
      have cB := (B0.out.ext XA.out).cell
      obtain ⟨z, hz⟩ : ∃ z, Hid (d.2.1[k]? = some z) := get_exP d.2.1 k (by rw [N5.out]; exact hlt)
      obtain ⟨bl, ol, rfl, hbl, hcl⟩ := (HLL.out.sl.ext (X0.out.trans XA.out) (Nat.le_refl _)).cells (by rw [N5.out]; omega)
      have cL := hcl k (by rw [N5.out]; exact hlt)
      have FI := hide (CA.out k hlt)
      have cb := CB.out k
      have lb := HD.out.limb z (List.mem_of_getElem? hz.out)
      rw [getD_some hz.out] at cL
      rw [show d.2.1.getD k 0 = z from getD_some hz.out] at FI
      obtain ⟨S, hS⟩ : ∃ S, Hid ((fcL d xs n).getD k 0 = S) := ⟨_, rfl⟩
      rw [hS.out] at cO FI cb
      have i5 : (k : Int) < 5 := by omega
      clear hcl
      by_cases hle : z < S
      · have HN : Hid (fitAt d xs k = false) := by show _ = _; rw [FI.out]; simp; omega
        have HF : Hid (R = false) := by show _ = _; rw [R6.out]; exact allL_stop (RA.out k hlt) HN.out
        go_wp2
        go_ret
        exact ⟨ret_bool HF.out.symm, X0.out.trans XA.out⟩
      · have HN : Hid (fitAt d xs k = true) := by show _ = _; rw [FI.out]; simp; omega
        go_wp2
        go_roundw
        case rel => exact ⟨k + 1, by omega, by go_num, allL_step (RA.out k hlt) HA.out HN.out, HX.out⟩
        case measure => simp [intOf]; omega
    · have HF : Hid (R = true) := by show _ = _; rw [R6.out]; exact allL_end (by simp; omega) HA.out
      go_wp2
      go_ret
      exact ⟨ret_bool HF.out.symm, X0.out.trans (X5.out.trans HX.out)⟩
end Go.Proofs.YtiohjcadmahkgaaGreat
