/- The stable sort of at most 14 items by their full bases. -/
import Derived.Test.YtiohjcadmahkgaaGreatZS
import Derived.Test.YtiohjcadmahkgaaGreatZO
namespace Go.Proofs.YtiohjcadmahkgaaGreat
open Go.RowKit Go.Sort
set_option linter.unusedVariables false

set_option maxRecDepth 100000 in
set_option maxHeartbeats 2000000 in
theorem closOrd (w : World) (gb : Nat) (v : Value) (d : CoD) (vs us : List Value) (x y : ItD) {Ac Al : Option Addr} {nc cc nl cl : Nat} {r b p f : Int} {T : TypeId} (hv : v = .agg #[.slice Ac nc cc, .slice Al nl cl, .int .i64 r, .int .i64 b, .int .i64 p, .int .i64 f])
    (hb : Blk w gb #[.slice Ac nc cc, .slice Al nl cl, .int .i64 r, .int .i64 b, .int .i64 p, .int .i64 f] T) (h : kC.rd w v d) (hok : kC.ok d) (hd : CodeOk d) (hx : kdItem.rd w w.heap.size vs x) (hy : kdItem.rd w w.heap.size us y) (ix : ItOk d x) (iy : ItOk d y) :
    Calls Tryz.prog 27 #[kdItem.val vs, kdItem.val us, .pointer (some ⟨gb, 0, none⟩)] w fun e w' => e = .returned (.int .i64 (fullF d x - fullF d y)) ∧ Ext w w' := by
  obtain ⟨A1, c1, A2, c2, rfl, h1, h2⟩ := kdItem.open_ hx
  obtain ⟨D1, e1, D2, e2, rfl, k1, k2⟩ := kdItem.open_ hy
  rw [kdItem.val3, kdItem.val3]
  have gl := hb.lt
  obtain ⟨W0, hW0⟩ : ∃ W0, Hid (W0 = (w.alloc (.cells #[.slice A1 x.1.length c1, .slice A2 x.2.1.length c2, .bool x.2.2] 53)).alloc (.cells #[.slice D1 y.1.length e1, .slice D2 y.2.1.length e2, .bool y.2.2] 53)) := ⟨_, rfl⟩
  have X0 : Hid (Ext w W0) := by rw [hW0.out]; exact (Ext.alloc w _).trans (Ext.alloc _ _)
  have B1 : Hid (Blk W0 w.heap.size #[.slice A1 x.1.length c1, .slice A2 x.2.1.length c2, .bool x.2.2] 53) := by rw [hW0.out]; exact (Blk.new rfl _ _).alloc _
  have B2 : Hid (Blk W0 (w.heap.size + 1) #[.slice D1 y.1.length e1, .slice D2 y.2.1.length e2, .bool y.2.2] 53) := by rw [hW0.out]; exact Blk.new (by simp) _ _
  have FX := hide (fun dd os => ext_regrown (i.fullBase_m (grow (redrawn W0 dd) os) _ d _ x (kC.rd_ext h (X0.out.trans (ext_re W0 dd os))) hok hd (kdItem.rd_more (kdItem.rd_ext hx (X0.out.trans (ext_re W0 dd os)) (Nat.le_refl _)) (X0.out.trans (ext_re W0 dd os)).size) ix))
  have FY := hide (fun dd os => ext_regrown (i.fullBase_m (grow (redrawn W0 dd) os) _ d _ y (kC.rd_ext h (X0.out.trans (ext_re W0 dd os))) hok hd (kdItem.rd_more (kdItem.rd_ext hy (X0.out.trans (ext_re W0 dd os)) (Nat.le_refl _)) (X0.out.trans (ext_re W0 dd os)).size) iy))
  have bx := fullF_bd hd x ix.n3
  have by' := fullF_bd hd y iy.n3
  have c0_ := fun dd os => (hb.ext (X0.out.trans (ext_re W0 dd os))).cell
  have c1_ := fun dd os => (B1.out.ext (ext_re W0 dd os)).cell
  have c2_ := fun dd os => (B2.out.ext (ext_re W0 dd os)).cell
  rw [kdItem.val3] at FX FY
  rw [hv] at FX FY
  have a1 := h1.1; have a2 := h1.2.1; have a3 := h2.1; have a4 := h2.2.1
  have b1 := k1.1; have b2 := k1.2.1; have b3 := k2.1; have b4 := k2.2.1
  clear h hx hy h1 h2 k1 k2 hb ix iy hv
  generalize fullF d x = fx at *
  generalize fullF d y = fy at *
  generalize x.1.length = m1 at *
  generalize x.2.1.length = m2 at *
  generalize x.2.2 = m3 at *
  generalize y.1.length = q1 at *
  generalize y.2.1.length = q2 at *
  generalize y.2.2 = q3 at *
  have kw : IntKind.i64.wrap (fx - fy) = fx - fy := IntWalk.i64_in _ (by omega)
  go_enter Tryz.func27, Tryz.ntmps27
  go_wp2
  rw [← hW0.out]
  clear hW0
  refine wp_region_quiet_below (by kernel_rfl) (by kernel_rfl) ?_
  repeat (go_big_quiet_step (first | with_reducible exact FX.out _ _ | with_reducible exact FY.out _ _))
  refine wpQuiet_nil ?_
  intro _ hw'
  obtain ⟨⟨dq, osq⟩, hw''⟩ := hw'
  subst hw''
  have Y2 := hide (ext_re W0 dq osq)
  clear c0_ c1_ c2_
  generalize grow (redrawn W0 dq) osq = w2 at *
  go_wp2
  go_ret
  exact ⟨rfl, X0.out.trans Y2.out⟩

theorem Ext.cellAt {u w : World} {g : Nat} (h : Ext u w) (hg : u.heap.size ≤ g) (q : Nat) (z : Value) : Ext u (w.setCell ⟨g, q, none⟩ z) := Below.setCell h (by show u.heap.size ≤ g; exact hg) z
theorem Ext.set6d {u w : World} {g : Nat} (h : Ext u w) (hg : u.heap.size ≤ g) (q0 q1 q2 q3 q4 q5 : Nat) (z0 z1 z2 z3 z4 z5 : Value) :
    Ext u ((((((w.setCell ⟨g, q0, none⟩ z0).setCell ⟨g, q1, none⟩ z1).setCell ⟨g, q2, none⟩ z2).setCell ⟨g, q3, none⟩ z3).setCell ⟨g, q4, none⟩ z4).setCell ⟨g, q5, none⟩ z5).drew := by
  have h0 := h.cellAt hg q0 z0
  have h1 := h0.cellAt hg q1 z1
  have h2 := h1.cellAt hg q2 z2
  have h3 := h2.cellAt hg q3 z3
  have h4 := h3.cellAt hg q4 z4
  have h5 := h4.cellAt hg q5 z5
  exact h5.trans (Ext.drew _)

set_option maxRecDepth 100000 in
set_option maxHeartbeats 4000000 in
theorem i.insSort_m (w0 w : World) (gb : Nat) (v : Value) (d : CoD) (A : Option Addr) (c : Nat) (xs : List ItD) (fp : List Nat) {Ac Al : Option Addr} {nc cc nl cl : Nat} {r b p f : Int} {T : TypeId} (hv : v = .agg #[.slice Ac nc cc, .slice Al nl cl, .int .i64 r, .int .i64 b, .int .i64 p, .int .i64 f])
    (hb : Blk w0 gb #[.slice Ac nc cc, .slice Al nl cl, .int .i64 r, .int .i64 b, .int .i64 p, .int .i64 f] T) (h : kC.rd w0 v d) (hok : kC.ok d) (hd : CodeOk d) (hX : Ext w0 w) (ho : LO kdItem 53 w A c xs fp) (hf : ∀ i ∈ fp, w0.heap.size ≤ i) (h14 : xs.length ≤ 14) (hit : ∀ x ∈ xs, ItOk d x) :
    Calls Tryz.prog 66 #[.slice A xs.length c, .int .i64 0, .int .i64 xs.length, .func (.func 27) #[] #[.pointer (some ⟨gb, 0, none⟩)]] w fun e w' => e = .returned (.tuple #[]) ∧ ∃ fp2, LO kdItem 53 w' A c (sortS (ltF d) xs) fp2 ∧ (∀ i ∈ fp2, i ∈ fp) ∧ Ext w0 w' := by
  have cap := ho.cap
  have ca1 := cap.1; have ca2 := cap.2
  have HO := hide ho
  have HF := hide hf
  have HX0 := hide hX
  have HIT := hide hit
  have CC := hide (fun (wq : World) (xq : Ext w0 wq) (vs us : List Value) (x y : ItD) (hx : kdItem.rd wq wq.heap.size vs x) (hy : kdItem.rd wq wq.heap.size us y) (ix : ItOk d x) (iy : ItOk d y) => closOrd wq gb v d vs us x y hv (hb.ext xq) (kC.rd_ext h xq) hok hd hx hy ix iy)
  have IS := hide (insertionSort_list (ltF d) xs)
  clear cap ho hf hX hit hv hb h
  obtain ⟨n, hn⟩ : ∃ n, Hid (xs.length = n) := ⟨_, rfl⟩
  rw [hn.out] at ca1 h14 IS ⊢
  have SZ : Hid (xs.toArray.size = n) := by show _ = _; rw [← hn.out]; simp
  go_enter Tryz.func66, Tryz.ntmps66
  go_wp2
  go_loopw [8] (fun vi wr => ∃ (i : Nat) (dk : Array ItD) (fp' : List Nat), vi = .int .i64 i ∧ 1 ≤ i ∧ i ≤ n + 1 ∧ dk.size = n ∧ LO kdItem 53 wr A c dk.toList fp' ∧ (∀ q ∈ fp', q ∈ fp) ∧ (∀ x ∈ dk.toList, ItOk d x) ∧ Hid (insOuter (ltF d) 0 n i dk = insOuter (ltF d) 0 n (0 + 1) xs.toArray) ∧ Ext w0 wr) (fun vi _ => n + 1 - (intOf vi).toNat)
  case atStart => exact ⟨1, xs.toArray, fp, by go_num, Nat.le_refl _, by omega, SZ.out, HO.out, fun q h => h, HIT.out, rfl, HX0.out⟩
  case round =>
    obtain ⟨i, dk, fp', rfl, hi1, hin, hsz, ho, hfp, hit, HE, hx⟩ := hrel
    have OK := hide ho
    have FP := hide hfp
    have IT := hide hit
    have SK := hide hsz
    have HX := hide hx
    clear ho hfp hit hsz hx
    by_cases hlt : i < n
    · have hltz : (i : Int) < (n : Int) := by omega
      go_wp2
      go_loopw [9] (fun vj wr => ∃ (j : Nat) (dj : Array ItD) (fpj : List Nat), vj = .int .i64 j ∧ j ≤ i ∧ dj.size = n ∧ LO kdItem 53 wr A c dj.toList fpj ∧ (∀ q ∈ fpj, q ∈ fp) ∧ (∀ x ∈ dj.toList, ItOk d x) ∧ Hid (insInner (ltF d) 0 j dj = insInner (ltF d) 0 i dk) ∧ Ext w0 wr) (fun vj _ => (intOf vj).toNat)
      case atStart => exact ⟨i, dk, fp', rfl, Nat.le_refl _, SK.out, OK.out, FP.out, IT.out, rfl, HX.out⟩
      case round =>
        obtain ⟨j, dj, fpj, rfl, hji, hsz, ho, hfp, hit, HI, hx⟩ := hrel
        have OJ := hide ho
        have FJ := hide hfp
        have ITJ := hide hit
        have SJ := hide hsz
        have HXJ := hide hx
        clear ho hfp hit hsz hx
        by_cases hj0 : 0 < j
        · obtain ⟨jp, hjp⟩ : ∃ jp, Hid (j = jp + 1) := ⟨j - 1, by show _ = _; omega⟩
          have jp1 : jp < n := by have := hjp.out; omega
          have jpj : jp ≠ j := by have := hjp.out; omega
          have ex := getI (d := dj) (i := j) (by rw [SJ.out]; omega)
          have ep := getI (d := dj) (i := jp) (by rw [SJ.out]; omega)
          have ix := ITJ.out _ (List.mem_of_getElem? ex)
          have ip := ITJ.out _ (List.mem_of_getElem? ep)
          obtain ⟨g, a0, a1, a2, b0, b1, b2, fx, fy, rfl, gm, gl, fr, oi, oj, p0, p1, p2, q0, q1, q2, hsw⟩ := LO.swapE rfl OJ.out j jp _ _ (Ne.symm jpj) ex ep
          obtain ⟨Ax, cx, Ax', cx', ea, -, -⟩ := kdItem.open_ (kdItem.own_rd oi)
          obtain ⟨Ap, cp, Ap', cp', eb, -, -⟩ := kdItem.open_ (kdItem.own_rd oj)
          simp only [List.cons.injEq, and_true] at ea eb
          obtain ⟨rfl, rfl, rfl⟩ := ea
          obtain ⟨rfl, rfl, rfl⟩ := eb
          have gw := HF.out g (FJ.out g gm)
          have sw := swpL (d := dj) j jp
          have hsw2 := hide (fun (w' : World) (hk : Ext wr w') => hsw w' (fun q hq => hk.block q (OJ.out.lt q hq)))
          have CQ := hide (fun dd os => ext_regrown (CC.out (grow (redrawn wr dd) os) (HXJ.out.trans (ext_re wr dd os)) _ _ _ _ (kdItem.rd_more (kdItem.rd_ext (kdItem.own_rd oi) (ext_re wr dd os) (Nat.le_refl _)) (ext_re wr dd os).size) (kdItem.rd_more (kdItem.rd_ext (kdItem.own_rd oj) (ext_re wr dd os) (Nat.le_refl _)) (ext_re wr dd os).size) ix ip))
          rw [kdItem.val3, kdItem.val3] at CQ
          have LT : Hid (ltF d dj[j]! dj[jp]! = decide (fullF d dj[j]! - fullF d dj[jp]! < 0)) := by
            show _ = _
            unfold ltF
            rw [Bool.eq_iff_iff]
            simp only [decide_eq_true_eq]
            omega
          have STP : Hid (ltF d dj[j]! dj[jp]! = false → insInner (ltF d) 0 j dj = dj) := fun hl => by
            rw [hjp.out] at hl ⊢
            unfold insInner
            rw [show jp + 1 = jp + 1 from rfl, hl]
            simp
          have GO : Hid (ltF d dj[j]! dj[jp]! = true → insInner (ltF d) 0 j dj = insInner (ltF d) 0 jp (swp dj j jp)) := fun hl => by
            rw [hjp.out] at hl ⊢
            conv => lhs; unfold insInner
            rw [hl]
            simp
          have MEM := hide (fun (x : ItD) (hx : x ∈ (swp dj j jp).toList) => ITJ.out x (swp_mem (by rw [SJ.out]; omega) (by rw [SJ.out]; omega) hx))
          have SW := hide sw
          have SS : Hid ((swp dj j jp).size = n) := by show _ = _; rw [size_swp]; exact SJ.out
          have hwp : IntKind.i64.wrap ((j : Int) - 1) = (jp : Int) := by rw [IntWalk.i64_in _ (by omega)]; have := hjp.out; omega
          have i1 : (j : Int) < n := by omega
          have i2 : (jp : Int) < n := by omega
          have i3 : (0 : Int) < (j : Int) := by omega
          have p0_ := fun dd os => cell_regrown p0 dd os
          have p1_ := fun dd os => cell_regrown p1 dd os
          have p2_ := fun dd os => cell_regrown p2 dd os
          have q0_ := fun dd os => cell_regrown q0 dd os
          have q1_ := fun dd os => cell_regrown q1 dd os
          have q2_ := fun dd os => cell_regrown q2 dd os
          obtain ⟨df, hdf⟩ : ∃ df, Hid (fullF d dj[j]! - fullF d dj[jp]! = df) := ⟨_, rfl⟩
          rw [hdf.out] at CQ LT
          have FRE := hide fr
          have P := hide (And.intro p0 (And.intro p1 (And.intro p2 (And.intro q0 (And.intro q1 q2)))))
          clear ex ep oi oj ix ip hsw sw p0 p1 p2 q0 q1 q2 fr gm
          generalize dj[j]!.1.length = x1 at *
          generalize dj[j]!.2.1.length = x2 at *
          generalize dj[j]!.2.2 = x3 at *
          generalize dj[jp]!.1.length = y1 at *
          generalize dj[jp]!.2.1.length = y2 at *
          generalize dj[jp]!.2.2 = y3 at *
          generalize dj[j]! = xj at *
          generalize dj[jp]! = xp at *
          go_wp2_with fail
          refine wp_region_quiet_below (by kernel_rfl) (by kernel_rfl) ?_
          repeat (go_big_quiet_step (exact CQ.out _ _))
          refine wpQuiet_nil ?_
          intro _ hw'
          obtain ⟨⟨dq, osq⟩, hw''⟩ := hw'
          subst hw''
          have Y5 := hide (ext_re wr dq osq)
          clear p0_ p1_ p2_ q0_ q1_ q2_ CQ
          generalize grow (redrawn wr dq) osq = w5 at *
          by_cases hl : df < 0
          · have HL : Hid (ltF d xj xp = true) := by show _ = _; rw [LT.out]; simpa using hl
            have G2 := hide (GO.out HL.out)
            obtain ⟨t0, t1, t2, t3, t4, t5⟩ := P.out
            have u0 := (Y5.out.cell (p := ⟨g, j * 3, none⟩) gl).trans t0
            have u1 := (Y5.out.cell (p := ⟨g, j * 3 + 1, none⟩) gl).trans t1
            have u2 := (Y5.out.cell (p := ⟨g, j * 3 + 2, none⟩) gl).trans t2
            have u3 := (Y5.out.cell (p := ⟨g, jp * 3, none⟩) gl).trans t3
            have u4 := (Y5.out.cell (p := ⟨g, jp * 3 + 1, none⟩) gl).trans t4
            have u5 := (Y5.out.cell (p := ⟨g, jp * 3 + 2, none⟩) gl).trans t5
            have fz : ∀ k, w5.frozen? ⟨g, k, none⟩ = false := fun k => (Y5.out.frozen (p := ⟨g, k, none⟩) gl).trans (FRE.out k)
            have f0 := fz (j * 3); have f1 := fz (j * 3 + 1); have f2 := fz (j * 3 + 2); have f3 := fz (jp * 3); have f4 := fz (jp * 3 + 1); have f5 := fz (jp * 3 + 2)
            have XD := hide (HXJ.out.trans Y5.out)
            obtain ⟨fp2, l2, s2⟩ := hsw2.out w5 Y5.out
            have L2 := hide (l2.ext (Ext.drew _))
            have S2 := hide s2
            clear t0 t1 t2 t3 t4 t5 l2 s2 fz hsw2 LT STP GO
            go_wp2_with fail
            have YE := hide (XD.out.set6d gw (j * 3) (j * 3 + 1) (j * 3 + 2) (jp * 3) (jp * 3 + 1) (jp * 3 + 2) (.slice Ap y1 cp) (.slice Ap' y2 cp') (.bool y3) (.slice Ax x1 cx) (.slice Ax' x2 cx') (.bool x3))
            go_region
            all_goals
              clear u0 u1 u2 u3 u4 u5 f0 f1 f2 f3 f4 f5
              generalize ((((((w5.setCell ⟨g, j * 3, none⟩ (.slice Ap y1 cp)).setCell ⟨g, j * 3 + 1, none⟩ (.slice Ap' y2 cp')).setCell ⟨g, j * 3 + 2, none⟩ (.bool y3)).setCell ⟨g, jp * 3, none⟩ (.slice Ax x1 cx)).setCell ⟨g, jp * 3 + 1, none⟩ (.slice Ax' x2 cx')).setCell ⟨g, jp * 3 + 2, none⟩ (.bool x3)).drew = w9 at *
              go_wp2
              go_roundw
              case rel => exact ⟨jp, swp dj j jp, fp2, by rfl, by have := hjp.out; omega, SS.out, by rw [SW.out]; exact L2.out, fun q hq => FJ.out q (S2.out q hq), MEM.out, G2.out.symm.trans HI.out, YE.out⟩
              case measure => simp [intOf]; have := hjp.out; omega
          · have HL : Hid (ltF d xj xp = false) := by show _ = _; rw [LT.out]; simpa using hl
            have G2 := hide (STP.out HL.out)
            have NX : Hid (insOuter (ltF d) 0 n (i + 1) dj = insOuter (ltF d) 0 n (0 + 1) xs.toArray) := by
              show _ = _
              rw [← HE.out]
              conv => rhs; unfold insOuter
              rw [if_pos hlt, ← HI.out, G2.out]
            clear hsw2 LT STP GO P
            go_wp2
            go_roundw
            case rel => exact ⟨i + 1, dj, fpj, by go_num, by omega, by omega, SJ.out, OJ.out.ext Y5.out, FJ.out, ITJ.out, NX, HXJ.out.trans Y5.out⟩
            case measure => simp [intOf]; omega
        · have ej : j = 0 := by omega
          subst ej
          have NX : Hid (insOuter (ltF d) 0 n (i + 1) dj = insOuter (ltF d) 0 n (0 + 1) xs.toArray) := by
            show _ = _
            rw [← HE.out]
            conv => rhs; unfold insOuter
            rw [if_pos hlt, ← HI.out]
            rfl
          go_wp2_with fail
          refine wp_region_quiet_below (by kernel_rfl) (by kernel_rfl) ?_
          repeat (go_big_quiet_step (fail))
          refine wpQuiet_nil ?_
          intro _ hw'
          obtain ⟨⟨dq, osq⟩, hw''⟩ := hw'
          subst hw''
          have Y5 := hide (ext_re wr dq osq)
          generalize grow (redrawn wr dq) osq = w5 at *
          go_wp2
          go_roundw
          case rel => exact ⟨i + 1, dj, fpj, by go_num, by omega, by omega, SJ.out, OJ.out.ext Y5.out, FJ.out, ITJ.out, NX, HXJ.out.trans Y5.out⟩
          case measure => simp [intOf]; omega
    · have hltz : ¬ (i : Int) < (n : Int) := by omega
      have EN : Hid (dk.toList = sortS (ltF d) xs) := by
        show _ = _
        have h8 := HE.out
        conv at h8 => lhs; unfold insOuter
        rw [if_neg hlt] at h8
        have h9 : insertionSort (ltF d) xs.toArray 0 n = (sortS (ltF d) xs).toArray := IS.out
        unfold insertionSort at h9
        rw [h8, h9]
      rw [EN.out] at OK
      go_wp2
      go_end0
      exact ⟨rfl, fp', OK.out, FP.out, HX.out⟩
end Go.Proofs.YtiohjcadmahkgaaGreat
