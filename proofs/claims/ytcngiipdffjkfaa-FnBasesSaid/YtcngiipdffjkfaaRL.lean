/- Families of items; FamilyBases. -/
import Derived.Test.YtcngiipdffjkfaaRK
namespace Go.Proofs.Ytcngiipdffjkfaa
open Go.RowKit Go.Sort
set_option linter.unusedVariables false

theorem made_zeroR (n : Nat) : (madeCells #[Value.int .i64 0] n).toList = (List.replicate n (0 : Int)).map (Value.int .i64) := by
  have h := part_made (List.replicate n 0) n (by simp)
  rw [h]
  congr 1
  simp [part]
theorem kI_of {w : World} {lo n c : Nat} {A : Option Addr} {zs : List Int} (h : OwnI 3 w lo A n c zs) : kI.fr w lo w.heap.size (.slice A n c) zs := by
  have hl := h.len
  subst hl
  exact ⟨A, c, rfl, h.fr⟩
theorem kI_nil (w : World) (lo hi : Nat) (h : hi ≤ w.heap.size) : kI.fr w lo hi (.slice none 0 0) [] := ⟨none, 0, rfl, OwnI.nil, h, fun p hp => by cases hp⟩
def familyF (d : CoD) (x : ItD) : Int := (d.1.getD (findF d.1 (x.1.getD 0 [])).toNat noEl).2.1
theorem familyF_bd {d : CoD} (hd : CodeOk d) (x : ItD) : 0 ≤ familyF d x ∧ familyF d x ≤ 4 := by
  unfold familyF
  cases hx : d.1[(findF d.1 (x.1.getD 0 [])).toNat]? with
  | none => rw [List.getD_eq_getElem?_getD, hx]; exact ⟨by decide, by decide⟩
  | some y => rw [getD_some hx]; have := elB_ok (hd.els _ _ hx); omega
def famN (d : CoD) (xs : List ItD) : Nat → List Int
  | 0 => List.replicate 5 0
  | k + 1 => (famN d xs k).set (familyF d (xs.getD k noItem)).toNat ((famN d xs k).getD (familyF d (xs.getD k noItem)).toNat 0 + baseF d xs k)
theorem famN_len (d : CoD) (xs : List ItD) (k : Nat) : (famN d xs k).length = 5 := by
  induction k with
  | zero => rfl
  | succ k ih => unfold famN; rw [List.length_set]; exact ih
theorem famN_bd {d : CoD} (hd : CodeOk d) {xs : List ItD} (ho : LsOk d xs) (k i : Nat) : 0 ≤ (famN d xs k).getD i 0 ∧ (famN d xs k).getD i 0 ≤ 10000 * k := by
  induction k generalizing i with
  | zero =>
    unfold famN
    have : (List.replicate 5 (0 : Int)).getD i 0 = 0 := by
      rw [List.getD_eq_getElem?_getD, List.getElem?_replicate]; split <;> rfl
    omega
  | succ k ih =>
    have hb := baseF_bd hd ho k
    unfold famN
    rw [List.getD_eq_getElem?_getD, List.getElem?_set]
    split
    · split
      · have := ih (familyF d (xs.getD k noItem)).toNat
        simp only [Option.getD_some]
        omega
      · simp only [Option.getD_none]; omega
    · have := ih i
      rw [List.getD_eq_getElem?_getD] at this
      omega
def famLaw (d : CoD) (xs : List ItD) : List Int × Bool := if codeB d && itemsB xs && knownB d.1 xs then (famN d xs xs.length, true) else ([], false)
theorem basesF_at {d : CoD} {xs : List ItD} {k : Nat} (h : k < xs.length) : (basesF d xs).getD k 0 = baseF d xs k := by
  unfold basesF basesN
  rw [List.getD_eq_getElem?_getD, List.getElem?_map, List.getElem?_range h]
  rfl

set_option maxRecDepth 100000 in
set_option maxHeartbeats 2000000 in
theorem i.familyOf_m (w : World) (v : Value) (d : CoD) (vs : List Value) (x : ItD) (h : kC.rd w v d) (hok : kC.ok d) (hd : CodeOk d) (hx : kdItem.rd w w.heap.size vs x) (hi : ItOk d x) :
    Calls Try.prog 36 #[v, kdItem.val vs] w fun e w' => e = .returned (.int .i64 (familyF d x)) ∧ Ext w w' := by
  obtain ⟨Ac, cc, Al, cl, rfl, hle, _⟩ := kC.lr h
  have HR := hide h
  have HLE := hide hle
  obtain ⟨nc, NC⟩ : ∃ z, Hid (d.1.length = z) := ⟨_, rfl⟩
  obtain ⟨nl, NL⟩ : ∃ z, Hid (d.2.1.length = z) := ⟨_, rfl⟩
  obtain ⟨r, RN⟩ : ∃ z, Hid (d.2.2.1 = z) := ⟨_, rfl⟩
  obtain ⟨b, BN⟩ : ∃ z, Hid (d.2.2.2.1 = z) := ⟨_, rfl⟩
  obtain ⟨p, PN⟩ : ∃ z, Hid (d.2.2.2.2.1 = z) := ⟨_, rfl⟩
  obtain ⟨f, FN⟩ : ∃ z, Hid (d.2.2.2.2.2 = z) := ⟨_, rfl⟩
  rw [NC.out, NL.out, RN.out, BN.out, PN.out, FN.out] at HR ⊢
  clear hle
  obtain ⟨A1, c1, A2, c2, rfl, h1, h2⟩ := kdItem.open_ hx
  rw [kdItem.val3]
  have H1 := hide h1
  have H2 := hide h2
  have a1 := h1.1; have a2 := h1.2.1; have a3 := h2.1; have a4 := h2.2.1
  have i1 := hi.n1; have i3 := hi.n3
  have ML := hide hi.ml
  have HI := hide hi
  have HD := hide hd
  clear h hx h1 h2 hi hd
  rw [ML.out] at a3 ⊢
  obtain ⟨m, hm⟩ : ∃ m, Hid (x.1.length = m) := ⟨_, rfl⟩
  rw [hm.out] at a1 a3 i1 i3 ⊢
  obtain ⟨q, hq⟩ : ∃ q, Hid (x.2.2 = q) := ⟨_, rfl⟩
  rw [hq.out]
  obtain ⟨W0, hW0⟩ : ∃ W0, Hid (W0 = (w.alloc (.cells #[.slice Ac nc cc, .slice Al nl cl, .int .i64 r, .int .i64 b, .int .i64 p, .int .i64 f] 27)).alloc (.cells #[.slice A1 m c1, .slice A2 m c2, .bool q] 43)) := ⟨_, rfl⟩
  have X0 : Hid (Ext w W0) := by rw [hW0.out]; exact (Ext.alloc w _).trans (Ext.alloc _ _)
  have B0 : Hid (Blk W0 w.heap.size #[.slice Ac nc cc, .slice Al nl cl, .int .i64 r, .int .i64 b, .int .i64 p, .int .i64 f] 27) := by rw [hW0.out]; exact (Blk.new rfl _ _).alloc _
  have B1 : Hid (Blk W0 (w.heap.size + 1) #[.slice A1 m c1, .slice A2 m c2, .bool q] 43) := by rw [hW0.out]; exact Blk.new (by simp) _ _
  have zW := X0.out.size
  obtain ⟨nm, hnm⟩ : ∃ nm, Hid (x.1[0]? = some nm) := get_ex x.1 0 (by rw [hm.out]; omega)
  obtain ⟨bn, on, rfl, hbn, u0, -⟩ := H1.out.str 0 nm hnm.out
  have FI := HI.out.kn 0 nm hnm.out
  obtain ⟨e9, y, hF, hyk, -⟩ := findF_some FI
  have FA : Hid (familyF d x = y.2.1) := by show _ = _; unfold familyF; rw [getD_some hnm.out, hF, Int.toNat_natCast, getD_some hyk]
  have hle := HLE.out
  have hnc := NC.out.symm
  have e9n : e9 < nc := by rw [hnc]; exact (List.getElem?_eq_some_iff.1 hyk).1
  have n24 : nc ≤ 24 := by rw [hnc]; exact HD.out.n2
  have ccn : nc ≤ cc := by rw [hnc]; exact hle.1
  have ccm := hle.2.1
  obtain ⟨be, oe, rfl, hbe, -, v1, -⟩ := hle.element e9 y hyk
  have FE := hide (fun dd os => ext_regrown (i.findElement_m (grow (redrawn W0 dd) os) _ d nm (kC.rd_ext HR.out (X0.out.trans (ext_re W0 dd os))) hok))
  rw [hF] at FE
  simp only [Nat.add_zero] at u0
  have V1 : W0.cell? ⟨be, oe + e9 * 4 + 1, none⟩ = some (.int .i64 y.2.1) := (X0.out.cell hbe).trans v1
  have U0 : W0.cell? ⟨bn, on, none⟩ = some (.string (bs nm)) := (X0.out.cell hbn).trans u0
  have c0_ := fun dd os => (B0.out.ext (ext_re W0 dd os)).cell
  have c1_ := fun dd os => (B1.out.ext (ext_re W0 dd os)).cell
  have v1_ := fun dd os => cell_regrown V1 dd os
  have u0_ := fun dd os => cell_regrown U0 dd os
  obtain ⟨R, hR⟩ : ∃ R, Hid (familyF d x = R) := ⟨_, rfl⟩
  rw [hR.out] at FA ⊢
  have p1 : 0 < m := by omega
  clear v1 u0 U0 hF hyk hle hnc FI
  generalize y.2.1 = Z at *
  generalize bs nm = nb at *
  go_enter Try.func36, Try.ntmps36
  go_wp2
  rw [← hW0.out]
  clear hW0
  refine wp_region_quiet_below (by kernel_rfl) (by kernel_rfl) ?_
  repeat (go_big_quiet_step ((go_at_call 62; exact FE.out _ _)))
  refine wpQuiet_nil ?_
  intro _ hw'
  obtain ⟨⟨dq, osq⟩, hw''⟩ := hw'
  subst hw''
  have Y2 := hide (ext_re W0 dq osq)
  have B2 := hide (B0.out.ext Y2.out)
  have V2 := hide ((Y2.out.cell (World.block_lt_of_cell? W0 _ V1)).trans V1)
  clear c0_ c1_ v1_ u0_ V1
  generalize grow (redrawn W0 dq) osq = w2 at *
  have cB := B2.out.cell
  have cV := V2.out
  go_wp2
  go_ret
  exact ⟨ret_int FA.out.symm, X0.out.trans Y2.out⟩

set_option maxRecDepth 100000 in
set_option maxHeartbeats 2000000 in
theorem s.bsFamily_m (w : World) (v : Value) (d : CoD) (vs : List Value) (x : ItD) (h : kC.rd w v d) (hok : kC.ok d) (hd : CodeOk d) (hx : kdItem.rd w w.heap.size vs x) (hi : ItOk d x) :
    Calls Try.prog 37 #[v, kdItem.val vs] w fun e w' => e = .returned (.int .i64 (familyF d x)) ∧ Ext w w' := by
  obtain ⟨Ac, cc, Al, cl, rfl, hle, _⟩ := kC.lr h
  have HR := hide h
  have HLE := hide hle
  obtain ⟨nc, NC⟩ : ∃ z, Hid (d.1.length = z) := ⟨_, rfl⟩
  obtain ⟨nl, NL⟩ : ∃ z, Hid (d.2.1.length = z) := ⟨_, rfl⟩
  obtain ⟨r, RN⟩ : ∃ z, Hid (d.2.2.1 = z) := ⟨_, rfl⟩
  obtain ⟨b, BN⟩ : ∃ z, Hid (d.2.2.2.1 = z) := ⟨_, rfl⟩
  obtain ⟨p, PN⟩ : ∃ z, Hid (d.2.2.2.2.1 = z) := ⟨_, rfl⟩
  obtain ⟨f, FN⟩ : ∃ z, Hid (d.2.2.2.2.2 = z) := ⟨_, rfl⟩
  rw [NC.out, NL.out, RN.out, BN.out, PN.out, FN.out] at HR ⊢
  clear hle
  obtain ⟨A1, c1, A2, c2, rfl, h1, h2⟩ := kdItem.open_ hx
  rw [kdItem.val3]
  have H1 := hide h1
  have H2 := hide h2
  have a1 := h1.1; have a2 := h1.2.1; have a3 := h2.1; have a4 := h2.2.1
  have i1 := hi.n1; have i3 := hi.n3
  have ML := hide hi.ml
  have HI := hide hi
  have HD := hide hd
  clear h hx h1 h2 hi hd
  rw [ML.out] at a3 ⊢
  obtain ⟨m, hm⟩ : ∃ m, Hid (x.1.length = m) := ⟨_, rfl⟩
  rw [hm.out] at a1 a3 i1 i3 ⊢
  obtain ⟨q, hq⟩ : ∃ q, Hid (x.2.2 = q) := ⟨_, rfl⟩
  rw [hq.out]
  obtain ⟨W0, hW0⟩ : ∃ W0, Hid (W0 = (w.alloc (.cells #[.slice Ac nc cc, .slice Al nl cl, .int .i64 r, .int .i64 b, .int .i64 p, .int .i64 f] 27)).alloc (.cells #[.slice A1 m c1, .slice A2 m c2, .bool q] 43)) := ⟨_, rfl⟩
  have X0 : Hid (Ext w W0) := by rw [hW0.out]; exact (Ext.alloc w _).trans (Ext.alloc _ _)
  have B0 : Hid (Blk W0 w.heap.size #[.slice Ac nc cc, .slice Al nl cl, .int .i64 r, .int .i64 b, .int .i64 p, .int .i64 f] 27) := by rw [hW0.out]; exact (Blk.new rfl _ _).alloc _
  have B1 : Hid (Blk W0 (w.heap.size + 1) #[.slice A1 m c1, .slice A2 m c2, .bool q] 43) := by rw [hW0.out]; exact Blk.new (by simp) _ _
  have zW := X0.out.size
  obtain ⟨nm, hnm⟩ : ∃ nm, Hid (x.1[0]? = some nm) := get_ex x.1 0 (by rw [hm.out]; omega)
  obtain ⟨bn, on, rfl, hbn, u0, -⟩ := H1.out.str 0 nm hnm.out
  have FI := HI.out.kn 0 nm hnm.out
  obtain ⟨e9, y, hF, hyk, -⟩ := findF_some FI
  have FA : Hid (familyF d x = y.2.1) := by show _ = _; unfold familyF; rw [getD_some hnm.out, hF, Int.toNat_natCast, getD_some hyk]
  have hle := HLE.out
  have hnc := NC.out.symm
  have e9n : e9 < nc := by rw [hnc]; exact (List.getElem?_eq_some_iff.1 hyk).1
  have n24 : nc ≤ 24 := by rw [hnc]; exact HD.out.n2
  have ccn : nc ≤ cc := by rw [hnc]; exact hle.1
  have ccm := hle.2.1
  obtain ⟨be, oe, rfl, hbe, -, v1, -⟩ := hle.element e9 y hyk
  have FE := hide (fun dd os => ext_regrown (s.cdFind_m (grow (redrawn W0 dd) os) _ d nm (kC.rd_ext HR.out (X0.out.trans (ext_re W0 dd os))) hok))
  rw [hF] at FE
  simp only [Nat.add_zero] at u0
  have V1 : W0.cell? ⟨be, oe + e9 * 4 + 1, none⟩ = some (.int .i64 y.2.1) := (X0.out.cell hbe).trans v1
  have U0 : W0.cell? ⟨bn, on, none⟩ = some (.string (bs nm)) := (X0.out.cell hbn).trans u0
  have c0_ := fun dd os => (B0.out.ext (ext_re W0 dd os)).cell
  have c1_ := fun dd os => (B1.out.ext (ext_re W0 dd os)).cell
  have v1_ := fun dd os => cell_regrown V1 dd os
  have u0_ := fun dd os => cell_regrown U0 dd os
  obtain ⟨R, hR⟩ : ∃ R, Hid (familyF d x = R) := ⟨_, rfl⟩
  rw [hR.out] at FA ⊢
  have p1 : 0 < m := by omega
  clear v1 u0 U0 hF hyk hle hnc FI
  generalize y.2.1 = Z at *
  generalize bs nm = nb at *
  go_enter Try.func37, Try.ntmps37
  go_wp2
  rw [← hW0.out]
  clear hW0
  refine wp_region_quiet_below (by kernel_rfl) (by kernel_rfl) ?_
  repeat (go_big_quiet_step ((go_at_call 66; exact FE.out _ _)))
  refine wpQuiet_nil ?_
  intro _ hw'
  obtain ⟨⟨dq, osq⟩, hw''⟩ := hw'
  subst hw''
  have Y2 := hide (ext_re W0 dq osq)
  have B2 := hide (B0.out.ext Y2.out)
  have V2 := hide ((Y2.out.cell (World.block_lt_of_cell? W0 _ V1)).trans V1)
  clear c0_ c1_ v1_ u0_ V1
  generalize grow (redrawn W0 dq) osq = w2 at *
  have cB := B2.out.cell
  have cV := V2.out
  go_wp2
  go_ret
  exact ⟨ret_int FA.out.symm, X0.out.trans Y2.out⟩

set_option maxRecDepth 100000 in
set_option maxHeartbeats 4000000 in
theorem i.FamilyBases_law (w : World) (v v' : Value) (d : CoD) (xs : List ItD) (h : kC.rd w v d) (hok : kC.ok d) (hx : kIt.rd w v' xs) (hok' : kIt.ok xs) :
    Calls Try.prog 12 #[v, v'] w fun e w' => ∃ v0, e = .returned (.tuple #[v0, .bool (famLaw d xs).2]) ∧ kI.fr w' w.heap.size w'.heap.size v0 (famLaw d xs).1 ∧ kI.ok (famLaw d xs).1 ∧ Ext w w' := by
  obtain ⟨Ac, nc, cc, Al, nl, cl, r, b, p, f, rfl⟩ := kC.shape h
  obtain ⟨A, c, rfl, hl⟩ := kIt.lr hx
  have hw : wtL kdItem xs ≤ 1048576 := hok'
  have hlen := Nat.le_trans (wtL_len kdItem xs) hw
  have HR := hide h
  have HL := hide hl
  have a1 := hl.1; have a2 := hl.2.1
  have GD := hide (fun (wq : World) (xq : Ext w wq) => i.areKnown_m wq _ d A c w.heap.size xs (kC.rd_ext h xq) hok (hl.ext xq (Nat.le_refl _)) xq.size hlen (fun k x hk => Nat.le_trans (wtL_at kdItem xs k x hk) hw))
  obtain ⟨F, hF⟩ : ∃ F, Hid (famLaw d xs = F) := ⟨_, rfl⟩
  rw [hF.out]
  clear h hx hl hok' hw
  obtain ⟨i0, hi, hz0, hz1, hz2⟩ := info_parts info_int
  have HZ := hide hz2
  have HI0 := hide hi
  have HZ0 := hide hz0
  have HZ1 := hide hz1
  clear hz2 hi hz0 hz1
  obtain ⟨W0, hW0⟩ : ∃ W0, Hid (W0 = w.alloc (.cells #[.slice Ac nc cc, .slice Al nl cl, .int .i64 r, .int .i64 b, .int .i64 p, .int .i64 f] 27)) := ⟨_, rfl⟩
  have X0 : Hid (Ext w W0) := by rw [hW0.out]; exact Ext.alloc w _
  have B0 : Hid (Blk W0 w.heap.size #[.slice Ac nc cc, .slice Al nl cl, .int .i64 r, .int .i64 b, .int .i64 p, .int .i64 f] 27) := by rw [hW0.out]; exact Blk.new rfl _ _
  have BV := hide (fun (hg : (codeB d && itemsB xs && knownB d.1 xs) = true) (wq : World) (xq : Ext w wq) => i.baseValues_m wq _ d A c w.heap.size xs (kC.rd_ext HR.out xq) hok (codeB_ok (by simp only [Bool.and_eq_true] at hg; exact hg.1.1)) (HL.out.ext xq (Nat.le_refl _)) xq.size (lsOk (by simp only [Bool.and_eq_true] at hg; exact hg.1.2) (by simp only [Bool.and_eq_true] at hg; exact hg.2)))
  obtain ⟨n, hn⟩ : ∃ n, Hid (xs.length = n) := ⟨_, rfl⟩
  rw [hn.out] at a1 hlen GD BV ⊢
  go_enter Try.func12, Try.ntmps12
  go_wp2_with fail
  rw [← hW0.out]
  clear hW0
  refine (GD.out W0 X0.out).mono ?_
  rintro e w1 ⟨rfl, x1⟩
  have X1 := hide (X0.out.trans x1)
  have B1 := hide (B0.out.ext x1)
  clear x1 GD X0
  cases hg : (codeB d && itemsB xs && knownB d.1 xs)
  · have HF : Hid (F = ([], false)) := by show _ = _; rw [← hF.out]; simp [famLaw, hg]
    clear hg
    go_wp2
    go_ret2
    rw [HF.out]
    exact ⟨_, rfl, kI_nil _ _ _ (Nat.le_refl _), Nat.zero_le _, X1.out⟩
  have HF : Hid (F = (famN d xs n, true)) := by show _ = _; rw [← hF.out, ← hn.out]; simp [famLaw, hg]
  have BQ := hide (BV.out hg)
  have hg2 := hg
  simp only [Bool.and_eq_true] at hg2
  have HC := hide (codeB_ok hg2.1.1)
  have HO := hide (lsOk hg2.1.2 hg2.2)
  have h14 := HO.out.n
  rw [hn.out] at h14
  clear hg hg2 BV hF
  go_wp2_with (at_make; refine wpList_make_full _ rfl _ _ _ rfl w1.heap.size 3 i0 _ 1 Try.underlying25 HI0.out HZ0.out HZ1.out _ _ _ _ 5 rfl rfl rfl rfl ?c1 ?c2 ?c3 ?_)
  case c1 => rw [HZ.out]; omega
  case c2 => unfold maxLen; omega
  case c3 => exact Nat.le_refl _
  intro w2 hown hgrow
  rw [made_zeroR] at hown
  have hb1 : Ext w1 w2 := (Ext.refl w1).grown hgrow (Nat.le_refl _) (by simp)
  have O1 : Hid (OwnI 3 w2 w1.heap.size (some ⟨w1.heap.size, 0, none⟩) 5 5 (famN d xs 0)) := hown
  have gl : w1.heap.size < w2.heap.size := by
    rcases OwnI.form O1.out with ⟨h, _⟩ | ⟨g, h, _, h2, _⟩
    · cases h
    · injection h with h; injection h with h; omega
  have X2 := hide (X1.out.trans hb1)
  have B2 := hide (B1.out.ext hb1)
  have HB1 := hide hb1
  clear hown hgrow hb1
  have cB := B2.out.cell
  go_wp2_with fail
  clear cB
  refine (BQ.out w2 X2.out).mono ?_
  rintro e w3 ⟨A9, c9, rfl, o9, x3⟩
  have O9 := hide o9
  have oc1 := o9.capn; have oc2 := o9.capm
  have O3 : Hid (OwnI 3 w3 w1.heap.size (some ⟨w1.heap.size, 0, none⟩) 5 5 (famN d xs 0)) := O1.out.below x3 (Nat.le_refl _)
  have X3 := hide (HB1.out.trans x3)
  clear o9 x3 O1
  obtain ⟨g, hg⟩ : ∃ g, Hid (g = w1.heap.size) := ⟨_, rfl⟩
  rw [← hg.out] at O3 gl
  have gl1 : w1.heap.size ≤ g := by rw [hg.out]; exact Nat.le_refl _
  rw [← hg.out]
  go_wp2
  go_loopw [18] (fun i wr => ∃ (k : Nat), k ≤ n ∧ i = .int .i64 k ∧ OwnI 3 wr g (some ⟨g, 0, none⟩) 5 5 (famN d xs k) ∧ OwnI 3 wr w2.heap.size A9 n c9 (basesF d xs) ∧ Ext w1 wr) (fun i _ => n - (intOf i).toNat)
  case atStart => exact ⟨0, Nat.zero_le _, rfl, O3.out, O9.out, X3.out⟩
  case round =>
    obtain ⟨k, hk, rfl, ho, hb, hx⟩ := hrel
    clear O3 O9 X3
    have O3 := hide ho
    have O9 := hide hb
    have HX := hide hx
    clear ho hb hx
    by_cases hlt : k < n
    · obtain ⟨x, hxk⟩ : ∃ x, Hid (xs[k]? = some x) := ⟨_, List.getElem?_eq_getElem (by rw [hn.out]; exact hlt)⟩
      have XW := hide (X1.out.trans HX.out)
      have z1 := X1.out.size
      have zw := HX.out.size
      obtain ⟨bb, off, A1, c1, A2, c2, rfl, hbb, q0, q1, q2, r1, r2⟩ := (HL.out.ext X1.out (Nat.le_refl _)).item k x hxk.out
      have MK := hide (kdItem.rd_more (kdItem.mk_ r1 r2) z1)
      obtain ⟨g9, rfl, hg9, hg9b, _⟩ := OwnI.pos O9.out (by omega)
      have cK := OwnI.cell O9.out k hlt
      rw [basesF_at (by rw [hn.out]; exact hlt)] at cK
      have FA := hide (fun (wq : World) (xq : Ext w1 wq) => i.familyOf_m wq _ d _ x (kC.rd_ext HR.out (X1.out.trans xq)) hok HC.out (kdItem.rd_more (kdItem.rd_ext MK.out xq (Nat.le_refl _)) xq.size) (HO.out.it k x hxk.out))
      have fb := familyF_bd HC.out x
      obtain ⟨fa, hfa⟩ : ∃ fa : Nat, familyF d x = fa := ⟨(familyF d x).toNat, by omega⟩
      have fa5 : fa < 5 := by omega
      have FSU : Hid (famN d xs (k + 1) = (famN d xs k).set fa ((famN d xs k).getD fa 0 + baseF d xs k)) := by show _ = _; rw [famN, getD_some hxk.out, hfa, Int.toNat_natCast]
      have b1 := famN_bd HC.out HO.out k fa
      have b2 := baseF_bd HC.out HO.out k
      rw [hfa, kdItem.val3] at FA
      clear r1 r2 fb hfa
      have SF : Hid (∀ w', Ext w1 w' → (∀ i, w'.cell? ⟨w.heap.size, i, none⟩ = #[Value.slice Ac nc cc, .slice Al nl cl, .int .i64 r, .int .i64 b, .int .i64 p, .int .i64 f][i]?) ∧ w'.cell? ⟨bb, off + k * 3, none⟩ = some (.slice A1 x.1.length c1) ∧ w'.cell? ⟨bb, off + k * 3 + 1, none⟩ = some (.slice A2 x.2.1.length c2) ∧ w'.cell? ⟨bb, off + k * 3 + 2, none⟩ = some (.bool x.2.2)) := fun w' xq => by
        have bl : bb < w1.heap.size := by omega
        exact ⟨(B1.out.ext xq).cell, (xq.cell bl).trans q0, (xq.cell bl).trans q1, (xq.cell bl).trans q2⟩
      clear q0 q1 q2
      generalize x.1.length = m1 at *
      generalize x.2.1.length = m2 at *
      generalize x.2.2 = m3 at *
      generalize hS : famN d xs k = S at *
      generalize baseF d xs k = Z at *
      clear hS
      generalize hs : S.getD fa 0 = s0 at *
      have HS := hide hs
      clear hs
      go_wp2
      obtain ⟨c0_, v0_, v1_, v2_⟩ := SF.out wr HX.out
      have kw : IntKind.i64.wrap (s0 + Z) = s0 + Z := IntWalk.i64_in _ (by omega)
      have i1 : (k : Int) < n := by omega
      have i2 : (fa : Int) < 5 := by omega
      clear cK
      go_region_law
        (first | (go_simp; go_at_call 36; refine (FA.out wr.drew (HX.out.trans (Ext.drew wr))).mono ?_; rintro e w5 ⟨rfl, x5⟩; have Y5 := hide ((HX.out.trans (Ext.drew wr)).trans x5); have O5 : Hid (OwnI 3 w5 g (some ⟨g, 0, none⟩) 5 5 S) := O3.out.below ((Ext.drew wr).trans x5) (Nat.le_refl _); have P5 : Hid (OwnI 3 w5 w2.heap.size (some ⟨g9, 0, none⟩) n c9 (basesF d xs)) := O9.out.below ((Ext.drew wr).trans x5) (Nat.le_refl _); have cO := O5.out.cell fa fa5; rw [HS.out] at cO; have fO := O5.out.free fa; have YS : Hid (Ext w1 (w5.setCell ⟨g, fa, none⟩ (.int .i64 (s0 + Z)))) := Below.setCell Y5.out (by simpa using gl1) _; clear x5))
      all_goals
        have O6 : Hid (OwnI 3 (w5.setCell ⟨g, fa, none⟩ (.int .i64 (s0 + Z))) g (some ⟨g, 0, none⟩) 5 5 (S.set fa (s0 + Z))) := O5.out.set fa (s0 + Z)
        have P6 : Hid (OwnI 3 (w5.setCell ⟨g, fa, none⟩ (.int .i64 (s0 + Z))) w2.heap.size (some ⟨g9, 0, none⟩) n c9 (basesF d xs)) := Own.far P5.out (fun a ha => by injection ha with ha; subst ha; show g9 ≠ g; omega) _
        rw [← FSU.out] at O6
        clear c0_ v0_ v1_ v2_ kw cO fO O5 P5
        generalize w5.setCell ⟨g, fa, none⟩ (.int .i64 (s0 + Z)) = w6 at *
        go_wp2
        go_roundw
        case rel => exact ⟨k + 1, by omega, by go_num, O6.out, P6.out, YS.out⟩
        case measure => simp [intOf]; omega
    · have ek : n = k := by omega
      subst ek
      go_wp2
      go_ret2
      rw [HF.out]
      have z1 := X1.out.size
      exact ⟨_, rfl, kI_of (OwnI.lower O3.out (by omega)), by show (famN d xs n).length ≤ _; rw [famN_len]; omega, X1.out.trans HX.out⟩

set_option maxRecDepth 100000 in
set_option maxHeartbeats 4000000 in
theorem s.FamilyBases_law (w : World) (v v' : Value) (d : CoD) (xs : List ItD) (h : kC.rd w v d) (hok : kC.ok d) (hx : kIt.rd w v' xs) (hok' : kIt.ok xs) :
    Calls Try.prog 13 #[v, v'] w fun e w' => ∃ v0, e = .returned (.tuple #[v0, .bool (famLaw d xs).2]) ∧ kI.fr w' w.heap.size w'.heap.size v0 (famLaw d xs).1 ∧ kI.ok (famLaw d xs).1 ∧ Ext w w' := by
  obtain ⟨Ac, nc, cc, Al, nl, cl, r, b, p, f, rfl⟩ := kC.shape h
  obtain ⟨A, c, rfl, hl⟩ := kIt.lr hx
  have hw : wtL kdItem xs ≤ 1048576 := hok'
  have hlen := Nat.le_trans (wtL_len kdItem xs) hw
  have HR := hide h
  have HL := hide hl
  have a1 := hl.1; have a2 := hl.2.1
  have GD := hide (fun (wq : World) (xq : Ext w wq) => s.bsGood_m wq _ d A c w.heap.size xs (kC.rd_ext h xq) hok (hl.ext xq (Nat.le_refl _)) xq.size hlen (fun k x hk => Nat.le_trans (wtL_at kdItem xs k x hk) hw))
  obtain ⟨F, hF⟩ : ∃ F, Hid (famLaw d xs = F) := ⟨_, rfl⟩
  rw [hF.out]
  clear h hx hl hok' hw
  obtain ⟨i0, hi, hz0, hz1, hz2⟩ := info_parts info_int
  have HZ := hide hz2
  have HI0 := hide hi
  have HZ0 := hide hz0
  have HZ1 := hide hz1
  clear hz2 hi hz0 hz1
  obtain ⟨W0, hW0⟩ : ∃ W0, Hid (W0 = w.alloc (.cells #[.slice Ac nc cc, .slice Al nl cl, .int .i64 r, .int .i64 b, .int .i64 p, .int .i64 f] 27)) := ⟨_, rfl⟩
  have X0 : Hid (Ext w W0) := by rw [hW0.out]; exact Ext.alloc w _
  have B0 : Hid (Blk W0 w.heap.size #[.slice Ac nc cc, .slice Al nl cl, .int .i64 r, .int .i64 b, .int .i64 p, .int .i64 f] 27) := by rw [hW0.out]; exact Blk.new rfl _ _
  have BV := hide (fun (hg : (codeB d && itemsB xs && knownB d.1 xs) = true) (wq : World) (xq : Ext w wq) => s.bsAll_m wq _ d A c w.heap.size xs (kC.rd_ext HR.out xq) hok (codeB_ok (by simp only [Bool.and_eq_true] at hg; exact hg.1.1)) (HL.out.ext xq (Nat.le_refl _)) xq.size (lsOk (by simp only [Bool.and_eq_true] at hg; exact hg.1.2) (by simp only [Bool.and_eq_true] at hg; exact hg.2)))
  obtain ⟨n, hn⟩ : ∃ n, Hid (xs.length = n) := ⟨_, rfl⟩
  rw [hn.out] at a1 hlen GD BV ⊢
  go_enter Try.func13, Try.ntmps13
  go_wp2_with fail
  rw [← hW0.out]
  clear hW0
  refine (GD.out W0 X0.out).mono ?_
  rintro e w1 ⟨rfl, x1⟩
  have X1 := hide (X0.out.trans x1)
  have B1 := hide (B0.out.ext x1)
  clear x1 GD X0
  cases hg : (codeB d && itemsB xs && knownB d.1 xs)
  · have HF : Hid (F = ([], false)) := by show _ = _; rw [← hF.out]; simp [famLaw, hg]
    clear hg
    go_wp2
    go_ret2
    rw [HF.out]
    exact ⟨_, rfl, kI_nil _ _ _ (Nat.le_refl _), Nat.zero_le _, X1.out⟩
  have HF : Hid (F = (famN d xs n, true)) := by show _ = _; rw [← hF.out, ← hn.out]; simp [famLaw, hg]
  have BQ := hide (BV.out hg)
  have hg2 := hg
  simp only [Bool.and_eq_true] at hg2
  have HC := hide (codeB_ok hg2.1.1)
  have HO := hide (lsOk hg2.1.2 hg2.2)
  have h14 := HO.out.n
  rw [hn.out] at h14
  clear hg hg2 BV hF
  go_wp2_with (at_make; refine wpList_make_full _ rfl _ _ _ rfl w1.heap.size 3 i0 _ 1 Try.underlying25 HI0.out HZ0.out HZ1.out _ _ _ _ 5 rfl rfl rfl rfl ?c1 ?c2 ?c3 ?_)
  case c1 => rw [HZ.out]; omega
  case c2 => unfold maxLen; omega
  case c3 => exact Nat.le_refl _
  intro w2 hown hgrow
  rw [made_zeroR] at hown
  have hb1 : Ext w1 w2 := (Ext.refl w1).grown hgrow (Nat.le_refl _) (by simp)
  have O1 : Hid (OwnI 3 w2 w1.heap.size (some ⟨w1.heap.size, 0, none⟩) 5 5 (famN d xs 0)) := hown
  have gl : w1.heap.size < w2.heap.size := by
    rcases OwnI.form O1.out with ⟨h, _⟩ | ⟨g, h, _, h2, _⟩
    · cases h
    · injection h with h; injection h with h; omega
  have X2 := hide (X1.out.trans hb1)
  have B2 := hide (B1.out.ext hb1)
  have HB1 := hide hb1
  clear hown hgrow hb1
  have cB := B2.out.cell
  go_wp2_with fail
  clear cB
  refine (BQ.out w2 X2.out).mono ?_
  rintro e w3 ⟨A9, c9, rfl, o9, x3⟩
  have O9 := hide o9
  have oc1 := o9.capn; have oc2 := o9.capm
  have O3 : Hid (OwnI 3 w3 w1.heap.size (some ⟨w1.heap.size, 0, none⟩) 5 5 (famN d xs 0)) := O1.out.below x3 (Nat.le_refl _)
  have X3 := hide (HB1.out.trans x3)
  clear o9 x3 O1
  obtain ⟨g, hg⟩ : ∃ g, Hid (g = w1.heap.size) := ⟨_, rfl⟩
  rw [← hg.out] at O3 gl
  have gl1 : w1.heap.size ≤ g := by rw [hg.out]; exact Nat.le_refl _
  rw [← hg.out]
  go_wp2
  go_loopw [18] (fun i wr => ∃ (k : Nat), k ≤ n ∧ i = .int .i64 k ∧ OwnI 3 wr g (some ⟨g, 0, none⟩) 5 5 (famN d xs k) ∧ OwnI 3 wr w2.heap.size A9 n c9 (basesF d xs) ∧ Ext w1 wr) (fun i _ => n - (intOf i).toNat)
  case atStart => exact ⟨0, Nat.zero_le _, rfl, O3.out, O9.out, X3.out⟩
  case round =>
    obtain ⟨k, hk, rfl, ho, hb, hx⟩ := hrel
    clear O3 O9 X3
    have O3 := hide ho
    have O9 := hide hb
    have HX := hide hx
    clear ho hb hx
    by_cases hlt : k < n
    · obtain ⟨x, hxk⟩ : ∃ x, Hid (xs[k]? = some x) := ⟨_, List.getElem?_eq_getElem (by rw [hn.out]; exact hlt)⟩
      have XW := hide (X1.out.trans HX.out)
      have z1 := X1.out.size
      have zw := HX.out.size
      obtain ⟨bb, off, A1, c1, A2, c2, rfl, hbb, q0, q1, q2, r1, r2⟩ := (HL.out.ext X1.out (Nat.le_refl _)).item k x hxk.out
      have MK := hide (kdItem.rd_more (kdItem.mk_ r1 r2) z1)
      obtain ⟨g9, rfl, hg9, hg9b, _⟩ := OwnI.pos O9.out (by omega)
      have cK := OwnI.cell O9.out k hlt
      rw [basesF_at (by rw [hn.out]; exact hlt)] at cK
      have FA := hide (fun (wq : World) (xq : Ext w1 wq) => s.bsFamily_m wq _ d _ x (kC.rd_ext HR.out (X1.out.trans xq)) hok HC.out (kdItem.rd_more (kdItem.rd_ext MK.out xq (Nat.le_refl _)) xq.size) (HO.out.it k x hxk.out))
      have fb := familyF_bd HC.out x
      obtain ⟨fa, hfa⟩ : ∃ fa : Nat, familyF d x = fa := ⟨(familyF d x).toNat, by omega⟩
      have fa5 : fa < 5 := by omega
      have FSU : Hid (famN d xs (k + 1) = (famN d xs k).set fa ((famN d xs k).getD fa 0 + baseF d xs k)) := by show _ = _; rw [famN, getD_some hxk.out, hfa, Int.toNat_natCast]
      have b1 := famN_bd HC.out HO.out k fa
      have b2 := baseF_bd HC.out HO.out k
      rw [hfa, kdItem.val3] at FA
      clear r1 r2 fb hfa
      have SF : Hid (∀ w', Ext w1 w' → (∀ i, w'.cell? ⟨w.heap.size, i, none⟩ = #[Value.slice Ac nc cc, .slice Al nl cl, .int .i64 r, .int .i64 b, .int .i64 p, .int .i64 f][i]?) ∧ w'.cell? ⟨bb, off + k * 3, none⟩ = some (.slice A1 x.1.length c1) ∧ w'.cell? ⟨bb, off + k * 3 + 1, none⟩ = some (.slice A2 x.2.1.length c2) ∧ w'.cell? ⟨bb, off + k * 3 + 2, none⟩ = some (.bool x.2.2)) := fun w' xq => by
        have bl : bb < w1.heap.size := by omega
        exact ⟨(B1.out.ext xq).cell, (xq.cell bl).trans q0, (xq.cell bl).trans q1, (xq.cell bl).trans q2⟩
      clear q0 q1 q2
      generalize x.1.length = m1 at *
      generalize x.2.1.length = m2 at *
      generalize x.2.2 = m3 at *
      generalize hS : famN d xs k = S at *
      generalize baseF d xs k = Z at *
      clear hS
      generalize hs : S.getD fa 0 = s0 at *
      have HS := hide hs
      clear hs
      go_wp2
      obtain ⟨c0_, v0_, v1_, v2_⟩ := SF.out wr HX.out
      have kw : IntKind.i64.wrap (s0 + Z) = s0 + Z := IntWalk.i64_in _ (by omega)
      have i1 : (k : Int) < n := by omega
      have i2 : (fa : Int) < 5 := by omega
      clear cK
      go_region_law
        (first | (go_simp; go_at_call 37; refine (FA.out wr.drew (HX.out.trans (Ext.drew wr))).mono ?_; rintro e w5 ⟨rfl, x5⟩; have Y5 := hide ((HX.out.trans (Ext.drew wr)).trans x5); have O5 : Hid (OwnI 3 w5 g (some ⟨g, 0, none⟩) 5 5 S) := O3.out.below ((Ext.drew wr).trans x5) (Nat.le_refl _); have P5 : Hid (OwnI 3 w5 w2.heap.size (some ⟨g9, 0, none⟩) n c9 (basesF d xs)) := O9.out.below ((Ext.drew wr).trans x5) (Nat.le_refl _); have cO := O5.out.cell fa fa5; rw [HS.out] at cO; have fO := O5.out.free fa; have YS : Hid (Ext w1 (w5.setCell ⟨g, fa, none⟩ (.int .i64 (s0 + Z)))) := Below.setCell Y5.out (by simpa using gl1) _; clear x5))
      all_goals
        have O6 : Hid (OwnI 3 (w5.setCell ⟨g, fa, none⟩ (.int .i64 (s0 + Z))) g (some ⟨g, 0, none⟩) 5 5 (S.set fa (s0 + Z))) := O5.out.set fa (s0 + Z)
        have P6 : Hid (OwnI 3 (w5.setCell ⟨g, fa, none⟩ (.int .i64 (s0 + Z))) w2.heap.size (some ⟨g9, 0, none⟩) n c9 (basesF d xs)) := Own.far P5.out (fun a ha => by injection ha with ha; subst ha; show g9 ≠ g; omega) _
        rw [← FSU.out] at O6
        clear c0_ v0_ v1_ v2_ kw cO fO O5 P5
        generalize w5.setCell ⟨g, fa, none⟩ (.int .i64 (s0 + Z)) = w6 at *
        go_wp2
        go_roundw
        case rel => exact ⟨k + 1, by omega, by go_num, O6.out, P6.out, YS.out⟩
        case measure => simp [intOf]; omega
    · have ek : n = k := by omega
      subst ek
      go_wp2
      go_ret2
      rw [HF.out]
      have z1 := X1.out.size
      exact ⟨_, rfl, kI_of (OwnI.lower O3.out (by omega)), by show (famN d xs n).length ≤ _; rw [famN_len]; omega, X1.out.trans HX.out⟩
end Go.Proofs.Ytcngiipdffjkfaa
