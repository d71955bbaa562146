/- The family of an item, or -1. -/
import Derived.Test.YtiohjcadmahkgaaGreatZA
namespace Go.Proofs.YtiohjcadmahkgaaGreat
open Go.RowKit Go.Sort
set_option linter.unusedVariables false

set_option maxRecDepth 100000 in
set_option maxHeartbeats 2000000 in
theorem i.familyOf_c (w : World) (v : Value) (d : CoD) (vs : List Value) (x : ItD) (h : kC.rd w v d) (hok : kC.ok d) (hd : CodeOk d) (hx : kdItem.rd w w.heap.size vs x) (h1n : 1 ≤ x.1.length) :
    Calls Tryz.prog 111 #[v, kdItem.val vs] w fun e w' => e = .returned (.int .i64 (famI d x)) ∧ Ext w w' := by
  obtain ⟨Ac, cc, Al, cl, rfl, hle, _⟩ := kC.lr h
  have HR := hide h
  have HLE := hide hle
  obtain ⟨nc, NC⟩ : ∃ z, Hid (d.1.length = z) := ⟨_, rfl⟩
  obtain ⟨nl, NL⟩ : ∃ z, Hid (d.2.1.length = z) := ⟨_, rfl⟩
  obtain ⟨r, RN⟩ : ∃ z, Hid (d.2.2.1 = z) := ⟨_, rfl⟩
  obtain ⟨b, BN⟩ : ∃ z, Hid (d.2.2.2.1 = z) := ⟨_, rfl⟩
  obtain ⟨p, PN⟩ : ∃ z, Hid (d.2.2.2.2.1 = z) := ⟨_, rfl⟩
  obtain ⟨f, FN⟩ : ∃ z, Hid (d.2.2.2.2.2 = z) := ⟨_, rfl⟩
  rw [NC.out, NL.out, RN.out, BN.out, PN.out, FN.out] at HR ⊢
  clear hle
  obtain ⟨A1, c1, A2, c2, rfl, h1, h2⟩ := kdItem.open_ hx
  rw [kdItem.val3]
  have H1 := hide h1
  have a1 := h1.1; have a2 := h1.2.1; have a3 := h2.1; have a4 := h2.2.1
  have HD := hide hd
  clear h hx h1 h2 hd
  obtain ⟨m, hm⟩ : ∃ m, Hid (x.1.length = m) := ⟨_, rfl⟩
  obtain ⟨m2, hm2⟩ : ∃ m, Hid (x.2.1.length = m) := ⟨_, rfl⟩
  obtain ⟨q, hq⟩ : ∃ q, Hid (x.2.2 = q) := ⟨_, rfl⟩
  rw [hm.out] at a1 h1n ⊢
  rw [hm2.out] at a3 ⊢
  rw [hq.out]
  obtain ⟨W0, hW0⟩ : ∃ W0, Hid (W0 = (w.alloc (.cells #[.slice Ac nc cc, .slice Al nl cl, .int .i64 r, .int .i64 b, .int .i64 p, .int .i64 f] 34)).alloc (.cells #[.slice A1 m c1, .slice A2 m2 c2, .bool q] 53)) := ⟨_, rfl⟩
  have X0 : Hid (Ext w W0) := by rw [hW0.out]; exact (Ext.alloc w _).trans (Ext.alloc _ _)
  have B0 : Hid (Blk W0 w.heap.size #[.slice Ac nc cc, .slice Al nl cl, .int .i64 r, .int .i64 b, .int .i64 p, .int .i64 f] 34) := by rw [hW0.out]; exact (Blk.new rfl _ _).alloc _
  have B1 : Hid (Blk W0 (w.heap.size + 1) #[.slice A1 m c1, .slice A2 m2 c2, .bool q] 53) := by rw [hW0.out]; exact Blk.new (by simp) _ _
  have zW := X0.out.size
  obtain ⟨nm, hnm⟩ : ∃ nm, Hid (x.1[0]? = some nm) := get_ex x.1 0 (by rw [hm.out]; omega)
  obtain ⟨bn, on, rfl, hbn, u0, -⟩ := H1.out.str 0 nm hnm.out
  have FA : Hid (famI d x = if findF d.1 nm < 0 then -1 else (d.1.getD (findF d.1 nm).toNat noEl).2.1) := by show _ = _; unfold famI familyF; rw [getD_some hnm.out]
  have FK : Hid (0 ≤ findF d.1 nm → ∃ (k : Nat) (y : ElD), findF d.1 nm = k ∧ d.1[k]? = some y) := fun h => by
    obtain ⟨k, y, e1, e2, _⟩ := findF_some h
    exact ⟨k, y, e1, e2⟩
  have FB := findF_ge d.1 nm
  have FE := hide (fun dd os => ext_regrown (i.findElement_m (grow (redrawn W0 dd) os) _ d nm (kC.rd_ext HR.out (X0.out.trans (ext_re W0 dd os))) hok))
  obtain ⟨F, hF⟩ : ∃ F, Hid (findF d.1 nm = F) := ⟨_, rfl⟩
  rw [hF.out] at FE FA FK FB
  obtain ⟨R, hR⟩ : ∃ R, Hid (famI d x = R) := ⟨_, rfl⟩
  rw [hR.out] at FA ⊢
  simp only [Nat.add_zero] at u0
  have U0 : W0.cell? ⟨bn, on, none⟩ = some (.string (bs nm)) := (X0.out.cell hbn).trans u0
  have c0_ := fun dd os => (B0.out.ext (ext_re W0 dd os)).cell
  have c1_ := fun dd os => (B1.out.ext (ext_re W0 dd os)).cell
  have u0_ := fun dd os => cell_regrown U0 dd os
  have p1 : 0 < m := by omega
  clear u0 U0
  generalize bs nm = nb at *
  go_enter Tryz.func111, Tryz.ntmps111
  go_wp2
  rw [← hW0.out]
  clear hW0
  refine wp_region_quiet_below (by kernel_rfl) (by kernel_rfl) ?_
  repeat (go_big_quiet_step ((go_at_call 69; exact FE.out _ _)))
  refine wpQuiet_nil ?_
  intro _ hw'
  obtain ⟨⟨dq, osq⟩, hw''⟩ := hw'
  subst hw''
  have Y2 := hide (ext_re W0 dq osq)
  have B2 := hide (B0.out.ext Y2.out)
  clear c0_ c1_ u0_
  generalize grow (redrawn W0 dq) osq = w2 at *
  by_cases hneg : F < 0
  · have HF : Hid (R = -1) := by show _ = _; rw [FA.out, if_pos hneg]
    clear FA FK
    go_wp2
    go_ret
    exact ⟨ret_int HF.out.symm, X0.out.trans Y2.out⟩
  · obtain ⟨k, y, hk, hy⟩ := FK.out (by omega)
    rw [hk, if_neg (by omega), Int.toNat_natCast, getD_some hy] at FA
    have hl := HLE.out
    obtain ⟨be, oe, rfl, hbe, g0, u1, g2, g3, xl⟩ := hl.element k y hy
    have kn : k < nc := by rw [← NC.out]; exact (List.getElem?_eq_some_iff.1 hy).1
    have n24 : nc ≤ 24 := by rw [← NC.out]; exact HD.out.n2
    have cx1 := hl.1; have cx2 := hl.2.1
    rw [NC.out] at cx1
    have cE := ((X0.out.trans Y2.out).cell hbe).trans u1
    have cB := B2.out.cell
    clear g0 u1 g2 g3 xl hl FK hy
    subst hk
    generalize y.2.1 = z at *
    go_wp2
    go_ret
    exact ⟨ret_int FA.out.symm, X0.out.trans Y2.out⟩

set_option maxRecDepth 100000 in
set_option maxHeartbeats 2000000 in
theorem s.pgFamily_c (w : World) (v : Value) (d : CoD) (vs : List Value) (x : ItD) (h : kC.rd w v d) (hok : kC.ok d) (hd : CodeOk d) (hx : kdItem.rd w w.heap.size vs x) (h1n : 1 ≤ x.1.length) :
    Calls Tryz.prog 99 #[v, kdItem.val vs] w fun e w' => e = .returned (.int .i64 (famI d x)) ∧ Ext w w' := by
  obtain ⟨Ac, cc, Al, cl, rfl, hle, _⟩ := kC.lr h
  have HR := hide h
  have HLE := hide hle
  obtain ⟨nc, NC⟩ : ∃ z, Hid (d.1.length = z) := ⟨_, rfl⟩
  obtain ⟨nl, NL⟩ : ∃ z, Hid (d.2.1.length = z) := ⟨_, rfl⟩
  obtain ⟨r, RN⟩ : ∃ z, Hid (d.2.2.1 = z) := ⟨_, rfl⟩
  obtain ⟨b, BN⟩ : ∃ z, Hid (d.2.2.2.1 = z) := ⟨_, rfl⟩
  obtain ⟨p, PN⟩ : ∃ z, Hid (d.2.2.2.2.1 = z) := ⟨_, rfl⟩
  obtain ⟨f, FN⟩ : ∃ z, Hid (d.2.2.2.2.2 = z) := ⟨_, rfl⟩
  rw [NC.out, NL.out, RN.out, BN.out, PN.out, FN.out] at HR ⊢
  clear hle
  obtain ⟨A1, c1, A2, c2, rfl, h1, h2⟩ := kdItem.open_ hx
  rw [kdItem.val3]
  have H1 := hide h1
  have a1 := h1.1; have a2 := h1.2.1; have a3 := h2.1; have a4 := h2.2.1
  have HD := hide hd
  clear h hx h1 h2 hd
  obtain ⟨m, hm⟩ : ∃ m, Hid (x.1.length = m) := ⟨_, rfl⟩
  obtain ⟨m2, hm2⟩ : ∃ m, Hid (x.2.1.length = m) := ⟨_, rfl⟩
  obtain ⟨q, hq⟩ : ∃ q, Hid (x.2.2 = q) := ⟨_, rfl⟩
  rw [hm.out] at a1 h1n ⊢
  rw [hm2.out] at a3 ⊢
  rw [hq.out]
  obtain ⟨W0, hW0⟩ : ∃ W0, Hid (W0 = (w.alloc (.cells #[.slice Ac nc cc, .slice Al nl cl, .int .i64 r, .int .i64 b, .int .i64 p, .int .i64 f] 34)).alloc (.cells #[.slice A1 m c1, .slice A2 m2 c2, .bool q] 53)) := ⟨_, rfl⟩
  have X0 : Hid (Ext w W0) := by rw [hW0.out]; exact (Ext.alloc w _).trans (Ext.alloc _ _)
  have B0 : Hid (Blk W0 w.heap.size #[.slice Ac nc cc, .slice Al nl cl, .int .i64 r, .int .i64 b, .int .i64 p, .int .i64 f] 34) := by rw [hW0.out]; exact (Blk.new rfl _ _).alloc _
  have B1 : Hid (Blk W0 (w.heap.size + 1) #[.slice A1 m c1, .slice A2 m2 c2, .bool q] 53) := by rw [hW0.out]; exact Blk.new (by simp) _ _
  have zW := X0.out.size
  obtain ⟨nm, hnm⟩ : ∃ nm, Hid (x.1[0]? = some nm) := get_ex x.1 0 (by rw [hm.out]; omega)
  obtain ⟨bn, on, rfl, hbn, u0, -⟩ := H1.out.str 0 nm hnm.out
  have FA : Hid (famI d x = if findF d.1 nm < 0 then -1 else (d.1.getD (findF d.1 nm).toNat noEl).2.1) := by show _ = _; unfold famI familyF; rw [getD_some hnm.out]
  have FK : Hid (0 ≤ findF d.1 nm → ∃ (k : Nat) (y : ElD), findF d.1 nm = k ∧ d.1[k]? = some y) := fun h => by
    obtain ⟨k, y, e1, e2, _⟩ := findF_some h
    exact ⟨k, y, e1, e2⟩
  have FB := findF_ge d.1 nm
  have FE := hide (fun dd os => ext_regrown (s.cdFind_m (grow (redrawn W0 dd) os) _ d nm (kC.rd_ext HR.out (X0.out.trans (ext_re W0 dd os))) hok))
  obtain ⟨F, hF⟩ : ∃ F, Hid (findF d.1 nm = F) := ⟨_, rfl⟩
  rw [hF.out] at FE FA FK FB
  obtain ⟨R, hR⟩ : ∃ R, Hid (famI d x = R) := ⟨_, rfl⟩
  rw [hR.out] at FA ⊢
  simp only [Nat.add_zero] at u0
  have U0 : W0.cell? ⟨bn, on, none⟩ = some (.string (bs nm)) := (X0.out.cell hbn).trans u0
  have c0_ := fun dd os => (B0.out.ext (ext_re W0 dd os)).cell
  have c1_ := fun dd os => (B1.out.ext (ext_re W0 dd os)).cell
  have u0_ := fun dd os => cell_regrown U0 dd os
  have p1 : 0 < m := by omega
  clear u0 U0
  generalize bs nm = nb at *
  go_enter Tryz.func99, Tryz.ntmps99
  go_wp2
  rw [← hW0.out]
  clear hW0
  refine wp_region_quiet_below (by kernel_rfl) (by kernel_rfl) ?_
  repeat (go_big_quiet_step ((go_at_call 101; exact FE.out _ _)))
  refine wpQuiet_nil ?_
  intro _ hw'
  obtain ⟨⟨dq, osq⟩, hw''⟩ := hw'
  subst hw''
  have Y2 := hide (ext_re W0 dq osq)
  have B2 := hide (B0.out.ext Y2.out)
  clear c0_ c1_ u0_
  generalize grow (redrawn W0 dq) osq = w2 at *
  by_cases hneg : F < 0
  · have HF : Hid (R = -1) := by show _ = _; rw [FA.out, if_pos hneg]
    clear FA FK
    go_wp2
    go_ret
    exact ⟨ret_int HF.out.symm, X0.out.trans Y2.out⟩
  · obtain ⟨k, y, hk, hy⟩ := FK.out (by omega)
    rw [hk, if_neg (by omega), Int.toNat_natCast, getD_some hy] at FA
    have hl := HLE.out
    obtain ⟨be, oe, rfl, hbe, g0, u1, g2, g3, xl⟩ := hl.element k y hy
    have kn : k < nc := by rw [← NC.out]; exact (List.getElem?_eq_some_iff.1 hy).1
    have n24 : nc ≤ 24 := by rw [← NC.out]; exact HD.out.n2
    have cx1 := hl.1; have cx2 := hl.2.1
    rw [NC.out] at cx1
    have cE := ((X0.out.trans Y2.out).cell hbe).trans u1
    have cB := B2.out.cell
    clear g0 u1 g2 g3 xl hl FK hy
    subst hk
    generalize y.2.1 = z at *
    go_wp2
    go_ret
    exact ⟨ret_int FA.out.symm, X0.out.trans Y2.out⟩
end Go.Proofs.YtiohjcadmahkgaaGreat
