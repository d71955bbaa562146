/- A name by the rules (the reference). -/
import Derived.Test.YtiohjcadmahkgaaGreatZA
namespace Go.Proofs.YtiohjcadmahkgaaGreat
open Go.RowKit Go.Sort
set_option linter.unusedVariables false

set_option maxRecDepth 100000 in
set_option maxHeartbeats 2000000 in
theorem s.pgName_m (w : World) (v : Value) (d : CoD) (vs : List Value) (x : ItD) (A : Option Addr) (c B : Nat) (xs : List ItD) (nm : List UInt8) (r : Int) (h : kC.rd w v d) (hok : kC.ok d) (hd : CodeOk d) (hx : kdItem.rd w w.heap.size vs x)
    (hi : LR kdItem w B A c xs) (hB : B ≤ w.heap.size) (h14 : xs.length ≤ 14) (h3 : ∀ x ∈ xs, x.1.length ≤ 3) (hr : r = 2 ∨ r = 4 ∨ r = 7) :
    Calls Tryz.prog 100 #[v, .slice A xs.length c, kdItem.val vs, .string (bs nm), .int .i64 r] w fun e w' => e = .returned (.bool (nameR d xs r x nm)) ∧ Ext w w' := by
  obtain ⟨Ac, cc, Al, cl, rfl, hle, _⟩ := kC.lr h
  have HR := hide h
  have HLE := hide hle
  obtain ⟨nc, NC⟩ : ∃ z, Hid (d.1.length = z) := ⟨_, rfl⟩
  obtain ⟨nl, NL⟩ : ∃ z, Hid (d.2.1.length = z) := ⟨_, rfl⟩
  obtain ⟨rr, RN⟩ : ∃ z, Hid (d.2.2.1 = z) := ⟨_, rfl⟩
  obtain ⟨b, BN⟩ : ∃ z, Hid (d.2.2.2.1 = z) := ⟨_, rfl⟩
  obtain ⟨p, PN⟩ : ∃ z, Hid (d.2.2.2.2.1 = z) := ⟨_, rfl⟩
  obtain ⟨f, FN⟩ : ∃ z, Hid (d.2.2.2.2.2 = z) := ⟨_, rfl⟩
  rw [NC.out, NL.out, RN.out, BN.out, PN.out, FN.out] at HR ⊢
  obtain ⟨A1, c1, A2, c2, rfl, h1, h2⟩ := kdItem.open_ hx
  rw [kdItem.val3]
  have a1 := h1.1; have a2 := h1.2.1; have a3 := h2.1; have a4 := h2.2.1
  obtain ⟨m, hm⟩ : ∃ m, Hid (x.1.length = m) := ⟨_, rfl⟩
  obtain ⟨m2, hm2⟩ : ∃ m, Hid (x.2.1.length = m) := ⟨_, rfl⟩
  obtain ⟨q, hq⟩ : ∃ q, Hid (x.2.2 = q) := ⟨_, rfl⟩
  rw [hm.out] at a1 ⊢
  rw [hm2.out] at a3 ⊢
  rw [hq.out]
  have b1 := hi.1; have b2 := hi.2.1
  have H := hide hi
  have H3 := hide h3
  have HD := hide hd
  have H14 := hide h14
  obtain ⟨n, hn⟩ : ∃ n, Hid (xs.length = n) := ⟨_, rfl⟩
  rw [hn.out] at b1 h14 ⊢
  have hOC := hide (occ_le h3 nm xs.length)
  clear h hx h1 h2 hi h3 hd hle
  obtain ⟨W0, hW0⟩ : ∃ W0, Hid (W0 = (w.alloc (.cells #[.slice Ac nc cc, .slice Al nl cl, .int .i64 rr, .int .i64 b, .int .i64 p, .int .i64 f] 34)).alloc (.cells #[.slice A1 m c1, .slice A2 m2 c2, .bool q] 53)) := ⟨_, rfl⟩
  have X0 : Hid (Ext w W0) := by rw [hW0.out]; exact (Ext.alloc w _).trans (Ext.alloc _ _)
  have B0 : Hid (Blk W0 w.heap.size #[.slice Ac nc cc, .slice Al nl cl, .int .i64 rr, .int .i64 b, .int .i64 p, .int .i64 f] 34) := by rw [hW0.out]; exact (Blk.new rfl _ _).alloc _
  have B1 : Hid (Blk W0 (w.heap.size + 1) #[.slice A1 m c1, .slice A2 m2 c2, .bool q] 53) := by rw [hW0.out]; exact Blk.new (by simp) _ _
  have zW := X0.out.size
  have FE := hide (s.cdFind_m W0 _ d nm (kC.rd_ext HR.out X0.out) hok)
  have FB := findF_ge d.1 nm
  have FK : Hid (0 ≤ findF d.1 nm → ∃ (k : Nat) (y : ElD), findF d.1 nm = k ∧ d.1[k]? = some y) := fun h => by
    obtain ⟨k, y, e1, e2, _⟩ := findF_some h
    exact ⟨k, y, e1, e2⟩
  have JE : Hid (∀ (k : Nat) (y : ElD), findF d.1 nm = k → d.1[k]? = some y → jumpN d x nm = (((m : Int) == 1) || (y.2.1 == 0))) := fun k y e1 e2 => by
    unfold jumpN jump0
    rw [e1, Int.toNat_natCast, getD_some e2, hm.out]
    simp
  have JN : Hid (findF d.1 nm < 0 → jumpN d x nm = ((m : Int) == 1)) := fun h => by
    unfold jumpN jump0
    rw [hm.out]
    simp
    omega
  have RE : Hid (repW d xs nm = (decide ((occN xs nm : Int) ≤ rr) && (((occN xs nm : Int) == 1) || decide (0 < (occC xs nm : Int))))) := by show _ = _; unfold repW; rw [RN.out]
  have NE2 : Hid (nameR d xs 2 x nm = decide (0 ≤ findF d.1 nm)) := rfl
  have NE4 : Hid (nameR d xs 4 x nm = jumpN d x nm) := rfl
  have NE7 : Hid (nameR d xs 7 x nm = repW d xs nm) := rfl
  have PT := hide (fun (wq : World) (xq : Ext w wq) => s.pgTimes_m wq A c B xs nm (H.out.ext xq hB) (Nat.le_trans hB xq.size) H14.out H3.out)
  rw [hn.out] at PT
  obtain ⟨F, hF⟩ : ∃ F, Hid (findF d.1 nm = F) := ⟨_, rfl⟩
  rw [hF.out] at FE FB FK JE JN NE2
  obtain ⟨ta, hta⟩ : ∃ z, Hid (occN xs nm = z) := ⟨_, rfl⟩
  obtain ⟨tb, htb⟩ : ∃ z, Hid (occC xs nm = z) := ⟨_, rfl⟩
  rw [hta.out, htb.out] at PT RE
  generalize bs nm = nb at *
  rcases hr with rfl | rfl | rfl
  · obtain ⟨R, hR⟩ : ∃ R, Hid (nameR d xs 2 x nm = R) := ⟨_, rfl⟩
    rw [hR.out] at NE2 ⊢
    clear JE JN RE NE4 NE7 PT
    go_enter Tryz.func100, Tryz.ntmps100
    go_wp2_with fail
    rw [← hW0.out]
    clear hW0
    refine FE.out.mono ?_
    rintro e w1 ⟨rfl, x1⟩
    have X1 := hide (X0.out.trans x1)
    clear x1 FE
    go_wp2
    go_ret
    exact ⟨ret_bool NE2.out.symm, X1.out⟩
  · obtain ⟨R, hR⟩ : ∃ R, Hid (nameR d xs 4 x nm = R) := ⟨_, rfl⟩
    rw [hR.out] at NE4 ⊢
    clear RE NE2 NE7 PT
    by_cases hneg : F < 0
    · have HF := hide (NE4.out.trans (JN.out hneg))
      by_cases h1 : (m : Int) = 1
      · have HT : Hid (R = true) := by show _ = _; rw [HF.out]; simp [h1]
        clear HF JE JN FK NE4
        go_enter Tryz.func100, Tryz.ntmps100
        go_wp2_with fail
        rw [← hW0.out]
        clear hW0
        refine FE.out.mono ?_
        rintro e w1 ⟨rfl, x1⟩
        have X1 := hide (X0.out.trans x1)
        have cI := (B1.out.ext x1).cell
        clear x1 FE
        go_wp2
        go_ret
        exact ⟨ret_bool HT.out.symm, X1.out⟩
      · have HT : Hid (R = false) := by show _ = _; rw [HF.out]; simp [h1]
        have h2 : ((m : Int) == 1) = false := by rw [beq_eq_false_iff_ne]; exact h1
        clear HF JE JN FK NE4
        go_enter Tryz.func100, Tryz.ntmps100
        go_wp2_with fail
        rw [← hW0.out]
        clear hW0
        refine FE.out.mono ?_
        rintro e w1 ⟨rfl, x1⟩
        have X1 := hide (X0.out.trans x1)
        have cI := (B1.out.ext x1).cell
        clear x1 FE
        go_wp2
        go_ret
        exact ⟨ret_bool HT.out.symm, X1.out⟩
    · obtain ⟨k, y, hk, hy⟩ := FK.out (by omega)
      have HF := hide (NE4.out.trans (JE.out k y hk hy))
      have hl := HLE.out
      obtain ⟨be, oe, rfl, hbe, u0, u1, u2, u3, xl⟩ := hl.element k y hy
      have kn : k < nc := by rw [← NC.out]; exact (List.getElem?_eq_some_iff.1 hy).1
      have n24 : nc ≤ 24 := by rw [← NC.out]; exact HD.out.n2
      have cx1 := hl.1; have cx2 := hl.2.1
      rw [NC.out] at cx1
      have U1 : Hid (W0.cell? ⟨be, oe + k * 4 + 1, none⟩ = some (.int .i64 y.2.1)) := (X0.out.cell hbe).trans u1
      have hbe2 : be < W0.heap.size := Nat.lt_of_lt_of_le hbe zW
      clear u0 u1 u2 u3 xl hl JE JN FK NE4 hy
      generalize y.2.1 = z at *
      subst hk
      by_cases h1 : (m : Int) = 1
      · have HT : Hid (R = true) := by show _ = _; rw [HF.out]; simp [h1]
        clear HF
        go_enter Tryz.func100, Tryz.ntmps100
        go_wp2_with fail
        rw [← hW0.out]
        clear hW0
        refine FE.out.mono ?_
        rintro e w1 ⟨rfl, x1⟩
        have X1 := hide (X0.out.trans x1)
        have cI := (B1.out.ext x1).cell
        clear x1 FE
        go_wp2
        go_ret
        exact ⟨ret_bool HT.out.symm, X1.out⟩
      · have h2 : ((m : Int) == 1) = false := by rw [beq_eq_false_iff_ne]; exact h1
        rw [h2] at HF
        replace HF : Hid (R = (z == 0)) := by show _ = _; rw [HF.out]; simp
        go_enter Tryz.func100, Tryz.ntmps100
        go_wp2_with fail
        rw [← hW0.out]
        clear hW0
        refine FE.out.mono ?_
        rintro e w1 ⟨rfl, x1⟩
        have X1 := hide (X0.out.trans x1)
        have cI := (B1.out.ext x1).cell
        have cC := (B0.out.ext x1).cell
        have cE := (x1.cell hbe2).trans U1.out
        clear x1 FE
        go_wp2
        go_ret
        exact ⟨ret_bool HF.out.symm, X1.out⟩
  · obtain ⟨R, hR⟩ : ∃ R, Hid (nameR d xs 7 x nm = R) := ⟨_, rfl⟩
    rw [hR.out] at NE7 ⊢
    have HF := hide (NE7.out.trans RE.out)
    clear RE NE2 NE4 NE7 JE JN FK
    go_enter Tryz.func100, Tryz.ntmps100
    go_wp2_with fail
    rw [← hW0.out]
    clear hW0
    refine FE.out.mono ?_
    rintro e w1 ⟨rfl, x1⟩
    have X1 := hide (X0.out.trans x1)
    have B3 := hide (B0.out.ext x1)
    clear x1 FE
    go_wp2_with fail
    refine (PT.out w1 X1.out).mono ?_
    rintro e w2 ⟨rfl, x2⟩
    have X2 := hide (X1.out.trans x2)
    have cC := (B3.out.ext x2).cell
    clear x2 PT
    by_cases g1 : (ta : Int) ≤ rr
    · by_cases g2 : (ta : Int) = 1
      · have HT : Hid (R = true) := by show _ = _; rw [HF.out, g2]; simp; omega
        clear HF
        go_wp2
        go_ret
        exact ⟨ret_bool HT.out.symm, X2.out⟩
      · have g3 : ((ta : Int) == 1) = false := by rw [beq_eq_false_iff_ne]; exact g2
        have HT : Hid (R = decide (0 < tb)) := by show _ = _; rw [HF.out]; simp [g1, g3]
        clear HF
        go_wp2
        go_ret
        exact ⟨ret_bool HT.out.symm, X2.out⟩
    · have HT : Hid (R = false) := by show _ = _; rw [HF.out]; simp [g1]
      clear HF
      go_wp2
      go_ret
      exact ⟨ret_bool HT.out.symm, X2.out⟩
end Go.Proofs.YtiohjcadmahkgaaGreat
