/- How many items each family has. -/
import Derived.Test.YtiohjcadmahkgaaGreatZE
namespace Go.Proofs.YtiohjcadmahkgaaGreat
open Go.RowKit Go.Sort
set_option linter.unusedVariables false

set_option maxRecDepth 100000 in
set_option maxHeartbeats 2000000 in
theorem i.familyCounts_m (w : World) (v : Value) (d : CoD) (A : Option Addr) (c B : Nat) (xs : List ItD) (h : kC.rd w v d) (hok : kC.ok d) (hd : CodeOk d) (hi : LR kdItem w B A c xs) (hB : B ≤ w.heap.size) (h14 : xs.length ≤ 14) (h3 : ∀ x ∈ xs, 1 ≤ x.1.length ∧ x.1.length ≤ 3) :
    Calls Tryz.prog 106 #[v, .slice A xs.length c] w fun e w' => ∃ A' c', e = .returned (.slice A' 5 c') ∧ OwnI 3 w' w.heap.size A' 5 c' (fcL d xs xs.length) ∧ Ext w w' := by
  obtain ⟨Ac, nc, cc, Al, nl, cl, r, b, p, f, rfl⟩ := kC.shape h
  obtain ⟨i0, hi0, hz0, hz1, hz2⟩ := info_parts info_int
  have HZ := hide hz2
  have HI0 := hide hi0
  have HZ0 := hide hz0
  have HZ1 := hide hz1
  clear hz2 hi0 hz0 hz1
  have HR := hide h
  have H := hide hi
  have H3 := hide h3
  have HD := hide hd
  have a1 := hi.1; have a2 := hi.2.1
  clear h hi h3 hd
  obtain ⟨n, hn⟩ : ∃ n, Hid (xs.length = n) := ⟨_, rfl⟩
  rw [hn.out] at h14 a1 ⊢
  obtain ⟨W0, hW0⟩ : ∃ W0, Hid (W0 = w.alloc (.cells #[.slice Ac nc cc, .slice Al nl cl, .int .i64 r, .int .i64 b, .int .i64 p, .int .i64 f] 34)) := ⟨_, rfl⟩
  have X0 : Hid (Ext w W0) := by rw [hW0.out]; exact Ext.alloc w _
  have B0 : Hid (Blk W0 w.heap.size #[.slice Ac nc cc, .slice Al nl cl, .int .i64 r, .int .i64 b, .int .i64 p, .int .i64 f] 34) := by rw [hW0.out]; exact Blk.new rfl _ _
  have c0 := B0.out.cell
  rw [hW0.out] at c0
  go_enter Tryz.func106, Tryz.ntmps106
  go_wp2_with (at_make; rw [← hW0.out]; refine wpList_make_full _ rfl _ _ _ rfl W0.heap.size 3 i0 _ 1 Tryz.underlying23 HI0.out HZ0.out HZ1.out _ _ _ _ 5 rfl rfl rfl rfl ?c1 ?c2 ?c3 ?_)
  case c1 => rw [HZ.out]; omega
  case c2 => unfold maxLen; omega
  case c3 => exact Nat.le_refl _
  intro w2 hown hgrow
  clear hW0 c0
  rw [made_zeroR] at hown
  have hb1 : Ext W0 w2 := (Ext.refl W0).grown hgrow (Nat.le_refl _) (by simp)
  have O1 : Hid (OwnI 3 w2 W0.heap.size (some ⟨W0.heap.size, 0, none⟩) 5 5 (fcL d xs 0)) := by rw [fcL_zero]; exact hown
  obtain ⟨g, hg⟩ : ∃ g, Hid (g = W0.heap.size) := ⟨_, rfl⟩
  rw [← hg.out] at O1
  rw [← hg.out]
  have gl : W0.heap.size ≤ g := by rw [hg.out]; exact Nat.le_refl _
  have z0 := X0.out.size
  have gw : g < w2.heap.size := by
    rcases OwnI.form O1.out with ⟨h, _⟩ | ⟨g', h, _, h2, _⟩
    · cases h
    · injection h with h; injection h with h; omega
  have X2 := hide hb1
  have B2 := hide (B0.out.ext hb1)
  clear hown hgrow hb1
  have cB := B2.out.cell
  go_wp2
  clear cB
  go_loopw [12] (fun i wr => ∃ (k : Nat), k ≤ n ∧ i = .int .i64 k ∧ OwnI 3 wr g (some ⟨g, 0, none⟩) 5 5 (fcL d xs k) ∧ Ext W0 wr) (fun i _ => n - (intOf i).toNat)
  case atStart => exact ⟨0, Nat.zero_le _, rfl, O1.out, X2.out⟩
  case round =>
    obtain ⟨k, hk, rfl, ho, hx⟩ := hrel
    clear O1 X2
    have OK := hide ho
    have HX := hide hx
    clear ho hx
    by_cases hlt : k < n
    · obtain ⟨x, hxk⟩ : ∃ x, Hid (xs[k]? = some x) := get_exP xs k (by rw [hn.out]; exact hlt)
      have XW := hide (X0.out.trans HX.out)
      obtain ⟨bb, off, A1, c1, A2, c2, rfl, hb, q0, q1, q2, r1, r2⟩ := (H.out.ext XW.out hB).item k x hxk.out
      have k1 := H3.out x (List.mem_of_getElem? hxk.out)
      have sz := XW.out.size
      obtain ⟨W1, hW1⟩ : ∃ W1, Hid (W1 = wr.alloc (.cells #[.slice A1 x.1.length c1, .slice A2 x.2.1.length c2, .bool x.2.2] 53)) := ⟨_, rfl⟩
      have Y1 : Hid (Ext wr W1) := by rw [hW1.out]; exact Ext.alloc _ _
      have X1 : Hid (Ext W0 W1) := HX.out.trans Y1.out
      have B1 : Hid (Blk W1 wr.heap.size #[.slice A1 x.1.length c1, .slice A2 x.2.1.length c2, .bool x.2.2] 53) := by rw [hW1.out]; exact Blk.new rfl _ _
      have MK := hide (kdItem.rd_more (kdItem.mk_ (r1.ext Y1.out (by omega)) (r2.ext Y1.out (by omega))) (Nat.le_trans hB (X0.out.trans X1.out).size))
      have b1 := r1.1; have b2 := r1.2.1; have b3 := r2.1; have b4 := r2.2.1
      have FA := hide (i.familyOf_c W1 _ d _ x (kC.rd_ext HR.out (X0.out.trans X1.out)) hok HD.out MK.out k1.1)
      rw [kdItem.val3] at FA
      have fb := famI_bd HD.out x
      have SK : Hid (famI d x < 0 → fcL d xs (k + 1) = fcL d xs k) := fun h => fcL_skip hxk.out h
      have HT : Hid (∀ fa : Nat, famI d x = fa → fa < 5 → fcL d xs (k + 1) = (fcL d xs k).set fa ((fcL d xs k).getD fa 0 + 1)) := fun fa h1 h2 => fcL_hit hxk.out h1 h2
      have CB := hide (fun fa => fcL_bd d xs k fa)
      obtain ⟨F, hF⟩ : ∃ F, Hid (famI d x = F) := ⟨_, rfl⟩
      rw [hF.out] at FA fb SK HT
      clear r1 r2 MK
      generalize x.1.length = m1 at *
      generalize x.2.1.length = m2 at *
      generalize x.2.2 = m3 at *
      have cI := B1.out.cell
      have cC := (B0.out.ext X1.out).cell
      rw [hW1.out] at cI cC
      go_wp2_with fail
      rw [← hW1.out]
      clear hW1 cI cC q0 q1 q2
      refine FA.out.mono ?_
      rintro e w5 ⟨rfl, x5⟩
      have X5 := hide (X1.out.trans x5)
      have O5 := hide (OwnI.below OK.out (Y1.out.trans x5) (Nat.le_refl _))
      clear x5 FA
      by_cases hneg : F < 0
      · have SE := hide (SK.out hneg)
        clear SK HT
        go_wp2
        go_roundw
        case rel => exact ⟨k + 1, by omega, by go_num, by rw [SE.out]; exact O5.out, X5.out⟩
        case measure => simp [intOf]; omega
      · obtain ⟨fa, hfa⟩ : ∃ fa : Nat, F = (fa : Int) := ⟨F.toNat, by omega⟩
        have f5 : fa < 5 := by omega
        have SS := hide (HT.out fa hfa f5)
        have sb := CB.out fa
        subst hfa
        have cO := O5.out.cell fa f5
        have fO := O5.out.free fa
        obtain ⟨S, hS⟩ : ∃ S, Hid ((fcL d xs k).getD fa 0 = S) := ⟨_, rfl⟩
        rw [hS.out] at cO SS sb
        have YS : Hid (Ext W0 (w5.setCell ⟨g, fa, none⟩ (.int .i64 (S + 1)))) := Below.setCell X5.out (by simpa using gl) _
        have O6 : Hid (OwnI 3 (w5.setCell ⟨g, fa, none⟩ (.int .i64 (S + 1))) g (some ⟨g, 0, none⟩) 5 5 (fcL d xs (k + 1))) := by
          rw [SS.out]
          exact O5.out.set fa _
        clear SK HT CB
        go_wp2
        clear cO fO
        generalize w5.setCell ⟨g, fa, none⟩ (.int .i64 (S + 1)) = w6 at *
        go_roundw
        case rel => exact ⟨k + 1, by omega, by go_num, O6.out, YS.out⟩
        case measure => simp [intOf]; omega
    · have ek : n = k := by omega
      subst ek
      go_wp2
      go_ret
      exact ⟨_, _, rfl, OwnI.lower OK.out (by omega), X0.out.trans HX.out⟩

set_option maxRecDepth 100000 in
set_option maxHeartbeats 2000000 in
theorem s.pgCounts_m (w : World) (v : Value) (d : CoD) (A : Option Addr) (c B : Nat) (xs : List ItD) (h : kC.rd w v d) (hok : kC.ok d) (hd : CodeOk d) (hi : LR kdItem w B A c xs) (hB : B ≤ w.heap.size) (h14 : xs.length ≤ 14) (h3 : ∀ x ∈ xs, 1 ≤ x.1.length ∧ x.1.length ≤ 3) :
    Calls Tryz.prog 77 #[v, .slice A xs.length c] w fun e w' => ∃ A' c', e = .returned (.slice A' 5 c') ∧ OwnI 3 w' w.heap.size A' 5 c' (fcL d xs xs.length) ∧ Ext w w' := by
  obtain ⟨Ac, nc, cc, Al, nl, cl, r, b, p, f, rfl⟩ := kC.shape h
  obtain ⟨i0, hi0, hz0, hz1, hz2⟩ := info_parts info_int
  have HZ := hide hz2
  have HI0 := hide hi0
  have HZ0 := hide hz0
  have HZ1 := hide hz1
  clear hz2 hi0 hz0 hz1
  have HR := hide h
  have H := hide hi
  have H3 := hide h3
  have HD := hide hd
  have a1 := hi.1; have a2 := hi.2.1
  clear h hi h3 hd
  obtain ⟨n, hn⟩ : ∃ n, Hid (xs.length = n) := ⟨_, rfl⟩
  rw [hn.out] at h14 a1 ⊢
  obtain ⟨W0, hW0⟩ : ∃ W0, Hid (W0 = w.alloc (.cells #[.slice Ac nc cc, .slice Al nl cl, .int .i64 r, .int .i64 b, .int .i64 p, .int .i64 f] 34)) := ⟨_, rfl⟩
  have X0 : Hid (Ext w W0) := by rw [hW0.out]; exact Ext.alloc w _
  have B0 : Hid (Blk W0 w.heap.size #[.slice Ac nc cc, .slice Al nl cl, .int .i64 r, .int .i64 b, .int .i64 p, .int .i64 f] 34) := by rw [hW0.out]; exact Blk.new rfl _ _
  have c0 := B0.out.cell
  rw [hW0.out] at c0
  go_enter Tryz.func77, Tryz.ntmps77
  go_wp2_with (at_make; rw [← hW0.out]; refine wpList_make_full _ rfl _ _ _ rfl W0.heap.size 3 i0 _ 1 Tryz.underlying23 HI0.out HZ0.out HZ1.out _ _ _ _ 5 rfl rfl rfl rfl ?c1 ?c2 ?c3 ?_)
  case c1 => rw [HZ.out]; omega
  case c2 => unfold maxLen; omega
  case c3 => exact Nat.le_refl _
  intro w2 hown hgrow
  clear hW0 c0
  rw [made_zeroR] at hown
  have hb1 : Ext W0 w2 := (Ext.refl W0).grown hgrow (Nat.le_refl _) (by simp)
  have O1 : Hid (OwnI 3 w2 W0.heap.size (some ⟨W0.heap.size, 0, none⟩) 5 5 (fcL d xs 0)) := by rw [fcL_zero]; exact hown
  obtain ⟨g, hg⟩ : ∃ g, Hid (g = W0.heap.size) := ⟨_, rfl⟩
  rw [← hg.out] at O1
  rw [← hg.out]
  have gl : W0.heap.size ≤ g := by rw [hg.out]; exact Nat.le_refl _
  have z0 := X0.out.size
  have gw : g < w2.heap.size := by
    rcases OwnI.form O1.out with ⟨h, _⟩ | ⟨g', h, _, h2, _⟩
    · cases h
    · injection h with h; injection h with h; omega
  have X2 := hide hb1
  have B2 := hide (B0.out.ext hb1)
  clear hown hgrow hb1
  have cB := B2.out.cell
  go_wp2
  clear cB
  go_loopw [12] (fun i wr => ∃ (k : Nat), k ≤ n ∧ i = .int .i64 k ∧ OwnI 3 wr g (some ⟨g, 0, none⟩) 5 5 (fcL d xs k) ∧ Ext W0 wr) (fun i _ => n - (intOf i).toNat)
  case atStart => exact ⟨0, Nat.zero_le _, rfl, O1.out, X2.out⟩
  case round =>
    obtain ⟨k, hk, rfl, ho, hx⟩ := hrel
    clear O1 X2
    have OK := hide ho
    have HX := hide hx
    clear ho hx
    by_cases hlt : k < n
    · obtain ⟨x, hxk⟩ : ∃ x, Hid (xs[k]? = some x) := get_exP xs k (by rw [hn.out]; exact hlt)
      have XW := hide (X0.out.trans HX.out)
      obtain ⟨bb, off, A1, c1, A2, c2, rfl, hb, q0, q1, q2, r1, r2⟩ := (H.out.ext XW.out hB).item k x hxk.out
      have k1 := H3.out x (List.mem_of_getElem? hxk.out)
      have sz := XW.out.size
      obtain ⟨W1, hW1⟩ : ∃ W1, Hid (W1 = wr.alloc (.cells #[.slice A1 x.1.length c1, .slice A2 x.2.1.length c2, .bool x.2.2] 53)) := ⟨_, rfl⟩
      have Y1 : Hid (Ext wr W1) := by rw [hW1.out]; exact Ext.alloc _ _
      have X1 : Hid (Ext W0 W1) := HX.out.trans Y1.out
      have B1 : Hid (Blk W1 wr.heap.size #[.slice A1 x.1.length c1, .slice A2 x.2.1.length c2, .bool x.2.2] 53) := by rw [hW1.out]; exact Blk.new rfl _ _
      have MK := hide (kdItem.rd_more (kdItem.mk_ (r1.ext Y1.out (by omega)) (r2.ext Y1.out (by omega))) (Nat.le_trans hB (X0.out.trans X1.out).size))
      have b1 := r1.1; have b2 := r1.2.1; have b3 := r2.1; have b4 := r2.2.1
      have FA := hide (s.pgFamily_c W1 _ d _ x (kC.rd_ext HR.out (X0.out.trans X1.out)) hok HD.out MK.out k1.1)
      rw [kdItem.val3] at FA
      have fb := famI_bd HD.out x
      have SK : Hid (famI d x < 0 → fcL d xs (k + 1) = fcL d xs k) := fun h => fcL_skip hxk.out h
      have HT : Hid (∀ fa : Nat, famI d x = fa → fa < 5 → fcL d xs (k + 1) = (fcL d xs k).set fa ((fcL d xs k).getD fa 0 + 1)) := fun fa h1 h2 => fcL_hit hxk.out h1 h2
      have CB := hide (fun fa => fcL_bd d xs k fa)
      obtain ⟨F, hF⟩ : ∃ F, Hid (famI d x = F) := ⟨_, rfl⟩
      rw [hF.out] at FA fb SK HT
      clear r1 r2 MK
      generalize x.1.length = m1 at *
      generalize x.2.1.length = m2 at *
      generalize x.2.2 = m3 at *
      have cI := B1.out.cell
      have cC := (B0.out.ext X1.out).cell
      rw [hW1.out] at cI cC
      go_wp2_with fail
      rw [← hW1.out]
      clear hW1 cI cC q0 q1 q2
      refine FA.out.mono ?_
      rintro e w5 ⟨rfl, x5⟩
      have X5 := hide (X1.out.trans x5)
      have O5 := hide (OwnI.below OK.out (Y1.out.trans x5) (Nat.le_refl _))
      clear x5 FA
      by_cases hneg : F < 0
      · have SE := hide (SK.out hneg)
        clear SK HT
        go_wp2
        go_roundw
        case rel => exact ⟨k + 1, by omega, by go_num, by rw [SE.out]; exact O5.out, X5.out⟩
        case measure => simp [intOf]; omega
      · obtain ⟨fa, hfa⟩ : ∃ fa : Nat, F = (fa : Int) := ⟨F.toNat, by omega⟩
        have f5 : fa < 5 := by omega
        have SS := hide (HT.out fa hfa f5)
        have sb := CB.out fa
        subst hfa
        have cO := O5.out.cell fa f5
        have fO := O5.out.free fa
        obtain ⟨S, hS⟩ : ∃ S, Hid ((fcL d xs k).getD fa 0 = S) := ⟨_, rfl⟩
        rw [hS.out] at cO SS sb
        have YS : Hid (Ext W0 (w5.setCell ⟨g, fa, none⟩ (.int .i64 (S + 1)))) := Below.setCell X5.out (by simpa using gl) _
        have O6 : Hid (OwnI 3 (w5.setCell ⟨g, fa, none⟩ (.int .i64 (S + 1))) g (some ⟨g, 0, none⟩) 5 5 (fcL d xs (k + 1))) := by
          rw [SS.out]
          exact O5.out.set fa _
        clear SK HT CB
        go_wp2
        clear cO fO
        generalize w5.setCell ⟨g, fa, none⟩ (.int .i64 (S + 1)) = w6 at *
        go_roundw
        case rel => exact ⟨k + 1, by omega, by go_num, O6.out, YS.out⟩
        case measure => simp [intOf]; omega
    · have ek : n = k := by omega
      subst ek
      go_wp2
      go_ret
      exact ⟨_, _, rfl, OwnI.lower OK.out (by omega), X0.out.trans HX.out⟩
end Go.Proofs.YtiohjcadmahkgaaGreat
