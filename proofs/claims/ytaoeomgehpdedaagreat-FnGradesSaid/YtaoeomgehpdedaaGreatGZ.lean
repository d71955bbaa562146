/- GZ: ZA, ZB, ZC, ZD, ZE, ZF, ZG, ZH, ZI, ZJ, ZK, ZL in one text. -/
import Derived.Test.YtaoeomgehpdedaaGreatGY
import Derived.Test.YtaoeomgehpdedaaGreatRW
/- Names by the rules, and counts of families, plainly. -/
namespace Go.Proofs.YtaoeomgehpdedaaGreat
open Go.RowKit Go.Sort
set_option linter.unusedVariables false

/-- A name of an item keeps one of the rules 2, 4 and 7. -/
def nameR (d : CoD) (xs : List ItD) (r : Int) (x : ItD) (nm : List UInt8) : Bool := if r = 2 then decide (0 ≤ findF d.1 nm) else if r = 4 then jumpN d x nm else repW d xs nm
def nameI (d : CoD) (xs : List ItD) (r : Int) (x : ItD) : Bool := x.1.all (nameR d xs r x)
def namesR (d : CoD) (xs : List ItD) (r : Int) : Bool := xs.all (nameI d xs r)
theorem names2 (d : CoD) (xs : List ItD) : namesR d xs 2 = ruleB d xs 2 := rfl
theorem names4 (d : CoD) (xs : List ItD) : namesR d xs 4 = ruleB d xs 4 := rfl
theorem names7 (d : CoD) (xs : List ItD) : namesR d xs 7 = ruleB d xs 7 := rfl
/-- How many items each family has among the first k. -/
def fcL (d : CoD) (xs : List ItD) (k : Nat) : List Int := (List.range 5).map (fun f => (famCnt d (xs.take k) f : Int))
theorem fcL_len (d : CoD) (xs : List ItD) (k : Nat) : (fcL d xs k).length = 5 := by simp [fcL]
theorem fcL_zero (d : CoD) (xs : List ItD) : fcL d xs 0 = List.replicate 5 0 := by simp [fcL, famCnt]; rfl
theorem famCnt_succ (d : CoD) {xs : List ItD} {k : Nat} {x : ItD} (h : xs[k]? = some x) (f : Nat) : famCnt d (xs.take (k + 1)) f = famCnt d (xs.take k) f + if famI d x == (f : Int) then 1 else 0 := by
  unfold famCnt
  exact filter_succ (fun x => famI d x == (f : Int)) h
theorem fcL_skip {d : CoD} {xs : List ItD} {k : Nat} {x : ItD} (h : xs[k]? = some x) (hf : famI d x < 0) : fcL d xs (k + 1) = fcL d xs k := by
  unfold fcL
  refine List.map_congr_left fun f _ => ?_
  rw [famCnt_succ d h f, if_neg (by simp; omega)]
  rfl
theorem fcL_at (d : CoD) (xs : List ItD) (k f : Nat) (hf : f < 5) : (fcL d xs k).getD f 0 = famCnt d (xs.take k) f := by
  unfold fcL
  rw [List.getD_eq_getElem?_getD, List.getElem?_map, List.getElem?_range hf]
  rfl
theorem fcL_hit {d : CoD} {xs : List ItD} {k f : Nat} {x : ItD} (h : xs[k]? = some x) (hf : famI d x = f) (h5 : f < 5) : fcL d xs (k + 1) = (fcL d xs k).set f ((fcL d xs k).getD f 0 + 1) := by
  apply List.ext_getElem?
  intro i
  rw [List.getElem?_set, fcL_len, fcL_at _ _ _ _ h5]
  by_cases hi : i < 5
  · have e : ∀ k, (fcL d xs k)[i]? = some (famCnt d (xs.take k) i : Int) := fun k => by
      unfold fcL
      rw [List.getElem?_map, List.getElem?_range hi]
      rfl
    rw [e, famCnt_succ d h i]
    by_cases hx : f = i
    · subst hx
      rw [if_pos rfl, if_pos h5, if_pos (by simp [hf])]
      rfl
    · rw [if_neg hx, e, if_neg (by simp [hf]; omega)]
      rfl
  · rw [List.getElem?_eq_none (by rw [fcL_len]; omega), if_neg (by omega), List.getElem?_eq_none (by rw [fcL_len]; omega)]
theorem famCnt_le (d : CoD) (xs : List ItD) (k f : Nat) : famCnt d (xs.take k) f ≤ k := by
  unfold famCnt
  have h1 := List.length_filter_le (fun x => famI d x == (f : Int)) (xs.take k)
  rw [List.length_take] at h1
  omega
theorem fcL_bd (d : CoD) (xs : List ItD) (k f : Nat) : 0 ≤ (fcL d xs k).getD f 0 ∧ (fcL d xs k).getD f 0 ≤ k := by
  by_cases hf : f < 5
  · rw [fcL_at _ _ _ _ hf]
    have := famCnt_le d xs k f
    omega
  · rw [List.getD_eq_getElem?_getD, List.getElem?_eq_none (by rw [fcL_len]; omega)]
    simp
theorem famI_bd {d : CoD} (hd : CodeOk d) (x : ItD) : -1 ≤ famI d x ∧ famI d x ≤ 4 := by
  have := familyF_bd hd x
  unfold famI
  split <;> omega
/-- No family has more items than its limit. -/
def fitAt (d : CoD) (xs : List ItD) (f : Nat) : Bool := decide ((famCnt d xs f : Int) ≤ d.2.1.getD f 0)
theorem rule6 (d : CoD) (xs : List ItD) : ruleB d xs 6 = (List.range 5).all (fitAt d xs) := rfl
end Go.Proofs.YtaoeomgehpdedaaGreat

/- A name by the rules (the reference). -/
namespace Go.Proofs.YtaoeomgehpdedaaGreat
open Go.RowKit Go.Sort
set_option linter.unusedVariables false

set_option maxRecDepth 100000 in
set_option maxHeartbeats 2000000 in
theorem s.pgName_m (w : World) (v : Value) (d : CoD) (vs : List Value) (x : ItD) (A : Option Addr) (c B : Nat) (xs : List ItD) (nm : List UInt8) (r : Int) (h : kC.rd w v d) (hok : kC.ok d) (hd : CodeOk d) (hx : kdItem.rd w w.heap.size vs x)
    (hi : LR kdItem w B A c xs) (hB : B ≤ w.heap.size) (h14 : xs.length ≤ 14) (h3 : ∀ x ∈ xs, x.1.length ≤ 3) (hr : r = 2 ∨ r = 4 ∨ r = 7) :
    Calls Tryz.prog 142 #[v, .slice A xs.length c, kdItem.val vs, .string (bs nm), .int .i64 r] w fun e w' => e = .returned (.bool (nameR d xs r x nm)) ∧ Ext w w' := by
  obtain ⟨Ac, cc, Al, cl, rfl, hle, _⟩ := kC.lr h
  have HR := hide h
  have HLE := hide hle
  obtain ⟨nc, NC⟩ : ∃ z, Hid (d.1.length = z) := ⟨_, rfl⟩
  obtain ⟨nl, NL⟩ : ∃ z, Hid (d.2.1.length = z) := ⟨_, rfl⟩
  obtain ⟨rr, RN⟩ : ∃ z, Hid (d.2.2.1 = z) := ⟨_, rfl⟩
  obtain ⟨b, BN⟩ : ∃ z, Hid (d.2.2.2.1 = z) := ⟨_, rfl⟩
  obtain ⟨p, PN⟩ : ∃ z, Hid (d.2.2.2.2.1 = z) := ⟨_, rfl⟩
  obtain ⟨f, FN⟩ : ∃ z, Hid (d.2.2.2.2.2 = z) := ⟨_, rfl⟩
  rw [NC.out, NL.out, RN.out, BN.out, PN.out, FN.out] at HR ⊢
  obtain ⟨A1, c1, A2, c2, rfl, h1, h2⟩ := kdItem.open_ hx
  rw [kdItem.val3]
  have a1 := h1.1; have a2 := h1.2.1; have a3 := h2.1; have a4 := h2.2.1
  obtain ⟨m, hm⟩ : ∃ m, Hid (x.1.length = m) := ⟨_, rfl⟩
  obtain ⟨m2, hm2⟩ : ∃ m, Hid (x.2.1.length = m) := ⟨_, rfl⟩
  obtain ⟨q, hq⟩ : ∃ q, Hid (x.2.2 = q) := ⟨_, rfl⟩
  rw [hm.out] at a1 ⊢
  rw [hm2.out] at a3 ⊢
  rw [hq.out]
  have b1 := hi.1; have b2 := hi.2.1
  have H := hide hi
  have H3 := hide h3
  have HD := hide hd
  have H14 := hide h14
  obtain ⟨n, hn⟩ : ∃ n, Hid (xs.length = n) := ⟨_, rfl⟩
  rw [hn.out] at b1 h14 ⊢
  have hOC := hide (occ_le h3 nm xs.length)
  clear h hx h1 h2 hi h3 hd hle
  obtain ⟨W0, hW0⟩ : ∃ W0, Hid (W0 = (w.alloc (.cells #[.slice Ac nc cc, .slice Al nl cl, .int .i64 rr, .int .i64 b, .int .i64 p, .int .i64 f] 26)).alloc (.cells #[.slice A1 m c1, .slice A2 m2 c2, .bool q] 47)) := ⟨_, rfl⟩
  have X0 : Hid (Ext w W0) := by rw [hW0.out]; exact (Ext.alloc w _).trans (Ext.alloc _ _)
  have B0 : Hid (Blk W0 w.heap.size #[.slice Ac nc cc, .slice Al nl cl, .int .i64 rr, .int .i64 b, .int .i64 p, .int .i64 f] 26) := by rw [hW0.out]; exact (Blk.new rfl _ _).alloc _
  have B1 : Hid (Blk W0 (w.heap.size + 1) #[.slice A1 m c1, .slice A2 m2 c2, .bool q] 47) := by rw [hW0.out]; exact Blk.new (by simp) _ _
  have zW := X0.out.size
  have FE := hide (s.cdFind_m W0 _ d nm (kC.rd_ext HR.out X0.out) hok)
  have FB := findF_ge d.1 nm
  have FK : Hid (0 ≤ findF d.1 nm → ∃ (k : Nat) (y : ElD), findF d.1 nm = k ∧ d.1[k]? = some y) := fun h => by
    obtain ⟨k, y, e1, e2, _⟩ := findF_some h
    exact ⟨k, y, e1, e2⟩
  have JE : Hid (∀ (k : Nat) (y : ElD), findF d.1 nm = k → d.1[k]? = some y → jumpN d x nm = (((m : Int) == 1) || (y.2.1 == 0))) := fun k y e1 e2 => by
    unfold jumpN jump0
    rw [e1, Int.toNat_natCast, getD_some e2, hm.out]
    simp
  have JN : Hid (findF d.1 nm < 0 → jumpN d x nm = ((m : Int) == 1)) := fun h => by
    unfold jumpN jump0
    rw [hm.out]
    simp
    omega
  have RE : Hid (repW d xs nm = (decide ((occN xs nm : Int) ≤ rr) && (((occN xs nm : Int) == 1) || decide (0 < (occC xs nm : Int))))) := by show _ = _; unfold repW; rw [RN.out]
  have NE2 : Hid (nameR d xs 2 x nm = decide (0 ≤ findF d.1 nm)) := rfl
  have NE4 : Hid (nameR d xs 4 x nm = jumpN d x nm) := rfl
  have NE7 : Hid (nameR d xs 7 x nm = repW d xs nm) := rfl
  have PT := hide (fun (wq : World) (xq : Ext w wq) => s.pgTimes_m wq A c B xs nm (H.out.ext xq hB) (Nat.le_trans hB xq.size) H14.out H3.out)
  rw [hn.out] at PT
  obtain ⟨F, hF⟩ : ∃ F, Hid (findF d.1 nm = F) := ⟨_, rfl⟩
  rw [hF.out] at FE FB FK JE JN NE2
  obtain ⟨ta, hta⟩ : ∃ z, Hid (occN xs nm = z) := ⟨_, rfl⟩
  obtain ⟨tb, htb⟩ : ∃ z, Hid (occC xs nm = z) := ⟨_, rfl⟩
  rw [hta.out, htb.out] at PT RE
  generalize bs nm = nb at *
  rcases hr with rfl | rfl | rfl
  · obtain ⟨R, hR⟩ : ∃ R, Hid (nameR d xs 2 x nm = R) := ⟨_, rfl⟩
    rw [hR.out] at NE2 ⊢
    clear JE JN RE NE4 NE7 PT
    go_enter Tryz.func142, Tryz.ntmps142
    go_wp2_with fail
    rw [← hW0.out]
    clear hW0
    refine FE.out.mono ?_
    rintro e w1 ⟨rfl, x1⟩
    have X1 := hide (X0.out.trans x1)
    clear x1 FE
    go_wp2
    go_ret
    exact ⟨ret_bool NE2.out.symm, X1.out⟩
  · obtain ⟨R, hR⟩ : ∃ R, Hid (nameR d xs 4 x nm = R) := ⟨_, rfl⟩
    rw [hR.out] at NE4 ⊢
    clear RE NE2 NE7 PT
    by_cases hneg : F < 0
    · have HF := hide (NE4.out.trans (JN.out hneg))
      by_cases h1 : (m : Int) = 1
      · have HT : Hid (R = true) := by show _ = _; rw [HF.out]; simp [h1]
        clear HF JE JN FK NE4
        go_enter Tryz.func142, Tryz.ntmps142
        go_wp2_with fail
        rw [← hW0.out]
        clear hW0
        refine FE.out.mono ?_
        rintro e w1 ⟨rfl, x1⟩
        have X1 := hide (X0.out.trans x1)
        have cI := (B1.out.ext x1).cell
        clear x1 FE
        go_wp2
        go_ret
        exact ⟨ret_bool HT.out.symm, X1.out⟩
      · have HT : Hid (R = false) := by show _ = _; rw [HF.out]; simp [h1]
        have h2 : ((m : Int) == 1) = false := by rw [beq_eq_false_iff_ne]; exact h1
        clear HF JE JN FK NE4
        go_enter Tryz.func142, Tryz.ntmps142
        go_wp2_with fail
        rw [← hW0.out]
        clear hW0
        refine FE.out.mono ?_
        rintro e w1 ⟨rfl, x1⟩
        have X1 := hide (X0.out.trans x1)
        have cI := (B1.out.ext x1).cell
        clear x1 FE
        go_wp2
        go_ret
        exact ⟨ret_bool HT.out.symm, X1.out⟩
    · obtain ⟨k, y, hk, hy⟩ := FK.out (by omega)
      have HF := hide (NE4.out.trans (JE.out k y hk hy))
      have hl := HLE.out
      obtain ⟨be, oe, rfl, hbe, u0, u1, u2, u3, xl⟩ := hl.element k y hy
      have kn : k < nc := by rw [← NC.out]; exact (List.getElem?_eq_some_iff.1 hy).1
      have n24 : nc ≤ 24 := by rw [← NC.out]; exact HD.out.n2
      have cx1 := hl.1; have cx2 := hl.2.1
      rw [NC.out] at cx1
      have U1 : Hid (W0.cell? ⟨be, oe + k * 4 + 1, none⟩ = some (.int .i64 y.2.1)) := (X0.out.cell hbe).trans u1
      have hbe2 : be < W0.heap.size := Nat.lt_of_lt_of_le hbe zW
      clear u0 u1 u2 u3 xl hl JE JN FK NE4 hy
      generalize y.2.1 = z at *
      subst hk
      by_cases h1 : (m : Int) = 1
      · have HT : Hid (R = true) := by show _ = _; rw [HF.out]; simp [h1]
        clear HF
        go_enter Tryz.func142, Tryz.ntmps142
        go_wp2_with fail
        rw [← hW0.out]
        clear hW0
        refine FE.out.mono ?_
        rintro e w1 ⟨rfl, x1⟩
        have X1 := hide (X0.out.trans x1)
        have cI := (B1.out.ext x1).cell
        clear x1 FE
        go_wp2
        go_ret
        exact ⟨ret_bool HT.out.symm, X1.out⟩
      · have h2 : ((m : Int) == 1) = false := by rw [beq_eq_false_iff_ne]; exact h1
        rw [h2] at HF
        replace HF : Hid (R = (z == 0)) := by show _ = _; rw [HF.out]; simp
        go_enter Tryz.func142, Tryz.ntmps142
        go_wp2_with fail
        rw [← hW0.out]
        clear hW0
        refine FE.out.mono ?_
        rintro e w1 ⟨rfl, x1⟩
        have X1 := hide (X0.out.trans x1)
        have cI := (B1.out.ext x1).cell
        have cC := (B0.out.ext x1).cell
        have cE := (x1.cell hbe2).trans U1.out
        clear x1 FE
        go_wp2
        go_ret
        exact ⟨ret_bool HF.out.symm, X1.out⟩
  · obtain ⟨R, hR⟩ : ∃ R, Hid (nameR d xs 7 x nm = R) := ⟨_, rfl⟩
    rw [hR.out] at NE7 ⊢
    have HF := hide (NE7.out.trans RE.out)
    clear RE NE2 NE4 NE7 JE JN FK
    go_enter Tryz.func142, Tryz.ntmps142
    go_wp2_with fail
    rw [← hW0.out]
    clear hW0
    refine FE.out.mono ?_
    rintro e w1 ⟨rfl, x1⟩
    have X1 := hide (X0.out.trans x1)
    have B3 := hide (B0.out.ext x1)
    clear x1 FE
    go_wp2_with fail
    refine (PT.out w1 X1.out).mono ?_
    rintro e w2 ⟨rfl, x2⟩
    have X2 := hide (X1.out.trans x2)
    have cC := (B3.out.ext x2).cell
    clear x2 PT
    by_cases g1 : (ta : Int) ≤ rr
    · by_cases g2 : (ta : Int) = 1
      · have HT : Hid (R = true) := by show _ = _; rw [HF.out, g2]; simp; omega
        clear HF
        go_wp2
        go_ret
        exact ⟨ret_bool HT.out.symm, X2.out⟩
      · have g3 : ((ta : Int) == 1) = false := by rw [beq_eq_false_iff_ne]; exact g2
        have HT : Hid (R = decide (0 < tb)) := by show _ = _; rw [HF.out]; simp [g1, g3]
        clear HF
        go_wp2
        go_ret
        exact ⟨ret_bool HT.out.symm, X2.out⟩
    · have HT : Hid (R = false) := by show _ = _; rw [HF.out]; simp [g1]
      clear HF
      go_wp2
      go_ret
      exact ⟨ret_bool HT.out.symm, X2.out⟩
end Go.Proofs.YtaoeomgehpdedaaGreat

/- All names by the rules (the reference). -/
namespace Go.Proofs.YtaoeomgehpdedaaGreat
open Go.RowKit Go.Sort
set_option linter.unusedVariables false

set_option maxRecDepth 100000 in
set_option maxHeartbeats 1000000 in
theorem s.pgNames_m (w : World) (v : Value) (d : CoD) (A : Option Addr) (c B : Nat) (xs : List ItD) (r : Int) (h : kC.rd w v d) (hok : kC.ok d) (hd : CodeOk d) (hi : LR kdItem w B A c xs) (hB : B ≤ w.heap.size) (h14 : xs.length ≤ 14) (h3 : ∀ x ∈ xs, x.1.length ≤ 3) (hr : r = 2 ∨ r = 4 ∨ r = 7) :
    Calls Tryz.prog 140 #[v, .slice A xs.length c, .int .i64 r] w fun e w' => e = .returned (.bool (namesR d xs r)) ∧ Ext w w' := by
  obtain ⟨Ac, nc, cc, Al, nl, cl, rr, b, p, f, rfl⟩ := kC.shape h
  have HR := hide h
  have H := hide hi
  have H3 := hide h3
  have HD := hide hd
  have HRR := hide hr
  have a1 := hi.1; have a2 := hi.2.1
  clear h hi h3 hd hr
  obtain ⟨R, hR⟩ : ∃ R, Hid (namesR d xs r = R) := ⟨_, rfl⟩
  rw [hR.out]
  have HS : Hid (xs.all (nameI d xs r) = R) := hR.out
  obtain ⟨n, hn⟩ : ∃ n, Hid (xs.length = n) := ⟨_, rfl⟩
  have H14 := hide h14
  rw [hn.out] at h14 a1 ⊢
  obtain ⟨W0, hW0⟩ : ∃ W0, Hid (W0 = w.alloc (.cells #[.slice Ac nc cc, .slice Al nl cl, .int .i64 rr, .int .i64 b, .int .i64 p, .int .i64 f] 26)) := ⟨_, rfl⟩
  have X0 : Hid (Ext w W0) := by rw [hW0.out]; exact Ext.alloc w _
  have B0 : Hid (Blk W0 w.heap.size #[.slice Ac nc cc, .slice Al nl cl, .int .i64 rr, .int .i64 b, .int .i64 p, .int .i64 f] 26) := by rw [hW0.out]; exact Blk.new rfl _ _
  go_enter Tryz.func140, Tryz.ntmps140
  go_wp2
  rw [← hW0.out]
  clear hW0
  go_loopw [13] (fun i wr => ∃ (k : Nat), k ≤ n ∧ i = .int .i64 k ∧ (xs.take k).all (nameI d xs r) = true ∧ Ext W0 wr) (fun i _ => n - (intOf i).toNat)
  case atStart => exact ⟨0, Nat.zero_le _, rfl, rfl, Ext.refl _⟩
  case round =>
    obtain ⟨k, hk, rfl, hall, hx⟩ := hrel
    have HA := hide hall
    have HX := hide hx
    clear hall hx
    by_cases hlt : k < n
    · obtain ⟨x, hxk⟩ : ∃ x, Hid (xs[k]? = some x) := ⟨_, List.getElem?_eq_getElem (by rw [hn.out]; exact hlt)⟩
      have XW := hide (X0.out.trans HX.out)
      obtain ⟨bb, off, A1, c1, A2, c2, rfl, hb, q0, q1, q2, r1, r2⟩ := (H.out.ext XW.out hB).item k x hxk.out
      have k1 := H3.out x (List.mem_of_getElem? hxk.out)
      have sz := XW.out.size
      obtain ⟨W1, hW1⟩ : ∃ W1, Hid (W1 = wr.alloc (.cells #[.slice A1 x.1.length c1, .slice A2 x.2.1.length c2, .bool x.2.2] 47)) := ⟨_, rfl⟩
      have X1 : Hid (Ext W0 W1) := by rw [hW1.out]; exact HX.out.trans (Ext.alloc _ _)
      have B1 : Hid (Blk W1 wr.heap.size #[.slice A1 x.1.length c1, .slice A2 x.2.1.length c2, .bool x.2.2] 47) := by rw [hW1.out]; exact Blk.new rfl _ _
      have R1 := hide (r1.ext (show Ext wr W1 by rw [hW1.out]; exact Ext.alloc _ _) (by omega))
      have b1 := r1.1; have b2 := r1.2.1
      have MK := hide (kdItem.rd_more (kdItem.mk_ (r1.ext (show Ext wr W1 by rw [hW1.out]; exact Ext.alloc _ _) (by omega)) (r2.ext (show Ext wr W1 by rw [hW1.out]; exact Ext.alloc _ _) (by omega))) (Nat.le_trans hB (X0.out.trans X1.out).size))
      clear r1 r2
      have hKI : ∀ (y : ItD), nameI d xs r y = y.1.all (nameR d xs r y) := fun _ => rfl
      have HKI := hide (hKI x)
      clear hKI
      have PN := hide (fun (nm : List UInt8) (wq : World) (xq : Ext W1 wq) => s.pgName_m wq _ d _ x (some ⟨bb, off, none⟩) c B xs nm r (kC.rd_ext HR.out ((X0.out.trans X1.out).trans xq)) hok HD.out (kdItem.rd_more (kdItem.rd_ext MK.out xq (Nat.le_refl _)) xq.size) (H.out.ext ((X0.out.trans X1.out).trans xq) hB) (Nat.le_trans hB ((X0.out.trans X1.out).trans xq).size) H14.out H3.out HRR.out)
      rw [kdItem.val3] at PN
      obtain ⟨m, hm⟩ : ∃ m, Hid (x.1.length = m) := ⟨_, rfl⟩
      rw [hm.out] at q0 hW1 k1 b1 B1
      rw [hm.out, hn.out] at PN
      generalize x.2.1.length = m2 at *
      generalize x.2.2 = m3 at *
      go_wp2
      rw [← hW1.out]
      clear hW1 q0 q1 q2
      go_loopw [20] (fun i wr => ∃ (j : Nat), j ≤ m ∧ i = .int .i64 j ∧ (x.1.take j).all (nameR d xs r x) = true ∧ Ext W1 wr) (fun i _ => m - (intOf i).toNat)
      case atStart => exact ⟨0, Nat.zero_le _, rfl, rfl, Ext.refl _⟩
      case round =>
        obtain ⟨j, hj, rfl, hall, hx⟩ := hrel
        have HA2 := hide hall
        have HX2 := hide hx
        clear hall hx
        by_cases hltj : j < m
        · obtain ⟨nm, hnj⟩ : ∃ nm, Hid (x.1[j]? = some nm) := ⟨_, List.getElem?_eq_getElem (by rw [hm.out]; exact hltj)⟩
          obtain ⟨b9, off9, rfl, hb9, u0, ul⟩ := (R1.out.ext HX2.out (by have := X1.out.size; have := X0.out.size; omega)).str j nm hnj.out
          have XX := hide (X1.out.trans HX2.out)
          have cB := (B0.out.ext XX.out).cell
          have cI := (B1.out.ext HX2.out).cell
          have FE := hide (PN.out nm wr HX2.out)
          obtain ⟨F, hF⟩ : ∃ F, Hid (nameR d xs r x nm = F) := ⟨_, rfl⟩
          rw [hF.out] at FE
          generalize bs nm = nb at *
          go_wp2_with fail
          refine FE.out.mono ?_
          rintro e w2 ⟨rfl, x2⟩
          have HX3 := hide (HX2.out.trans x2)
          clear x2 cB cI u0 FE
          cases F
          · have HF : Hid (R = false) := by
              show _ = _
              rw [← HS.out]
              exact allL_stop hxk.out (by rw [HKI.out]; exact allL_stop hnj.out hF.out)
            go_wp2
            go_ret
            exact ⟨ret_bool HF.out.symm, X0.out.trans (X1.out.trans HX3.out)⟩
          · go_wp2
            go_roundw
            case rel => exact ⟨j + 1, by omega, by go_num, allL_step hnj.out HA2.out hF.out, HX3.out⟩
            case measure => simp [intOf]; omega
        · have HN : Hid (nameI d xs r x = true) := by show _ = _; rw [HKI.out]; exact allL_end (by rw [hm.out]; omega) HA2.out
          go_wp2
          go_roundw
          case rel => exact ⟨k + 1, by omega, by go_num, allL_step hxk.out HA.out HN.out, X1.out.trans HX2.out⟩
          case measure => simp [intOf]; omega
    · have HF : Hid (R = true) := by show _ = _; rw [← HS.out]; exact allL_end (by rw [hn.out]; omega) HA.out
      go_wp2
      go_ret
      exact ⟨ret_bool HF.out.symm, X0.out.trans HX.out⟩
end Go.Proofs.YtaoeomgehpdedaaGreat

/- Combined items have jumps alone (the program). -/
namespace Go.Proofs.YtaoeomgehpdedaaGreat
open Go.RowKit Go.Sort
set_option linter.unusedVariables false
def jumpI (d : CoD) (x : ItD) : Bool := x.1.all (jumpN d x)

end Go.Proofs.YtaoeomgehpdedaaGreat

/- The family of an item, or -1. -/
namespace Go.Proofs.YtaoeomgehpdedaaGreat
open Go.RowKit Go.Sort
set_option linter.unusedVariables false

set_option maxRecDepth 100000 in
set_option maxHeartbeats 2000000 in
theorem s.pgFamily_c (w : World) (v : Value) (d : CoD) (vs : List Value) (x : ItD) (h : kC.rd w v d) (hok : kC.ok d) (hd : CodeOk d) (hx : kdItem.rd w w.heap.size vs x) (h1n : 1 ≤ x.1.length) :
    Calls Tryz.prog 141 #[v, kdItem.val vs] w fun e w' => e = .returned (.int .i64 (famI d x)) ∧ Ext w w' := by
  obtain ⟨Ac, cc, Al, cl, rfl, hle, _⟩ := kC.lr h
  have HR := hide h
  have HLE := hide hle
  obtain ⟨nc, NC⟩ : ∃ z, Hid (d.1.length = z) := ⟨_, rfl⟩
  obtain ⟨nl, NL⟩ : ∃ z, Hid (d.2.1.length = z) := ⟨_, rfl⟩
  obtain ⟨r, RN⟩ : ∃ z, Hid (d.2.2.1 = z) := ⟨_, rfl⟩
  obtain ⟨b, BN⟩ : ∃ z, Hid (d.2.2.2.1 = z) := ⟨_, rfl⟩
  obtain ⟨p, PN⟩ : ∃ z, Hid (d.2.2.2.2.1 = z) := ⟨_, rfl⟩
  obtain ⟨f, FN⟩ : ∃ z, Hid (d.2.2.2.2.2 = z) := ⟨_, rfl⟩
  rw [NC.out, NL.out, RN.out, BN.out, PN.out, FN.out] at HR ⊢
  clear hle
  obtain ⟨A1, c1, A2, c2, rfl, h1, h2⟩ := kdItem.open_ hx
  rw [kdItem.val3]
  have H1 := hide h1
  have a1 := h1.1; have a2 := h1.2.1; have a3 := h2.1; have a4 := h2.2.1
  have HD := hide hd
  clear h hx h1 h2 hd
  obtain ⟨m, hm⟩ : ∃ m, Hid (x.1.length = m) := ⟨_, rfl⟩
  obtain ⟨m2, hm2⟩ : ∃ m, Hid (x.2.1.length = m) := ⟨_, rfl⟩
  obtain ⟨q, hq⟩ : ∃ q, Hid (x.2.2 = q) := ⟨_, rfl⟩
  rw [hm.out] at a1 h1n ⊢
  rw [hm2.out] at a3 ⊢
  rw [hq.out]
  obtain ⟨W0, hW0⟩ : ∃ W0, Hid (W0 = (w.alloc (.cells #[.slice Ac nc cc, .slice Al nl cl, .int .i64 r, .int .i64 b, .int .i64 p, .int .i64 f] 26)).alloc (.cells #[.slice A1 m c1, .slice A2 m2 c2, .bool q] 47)) := ⟨_, rfl⟩
  have X0 : Hid (Ext w W0) := by rw [hW0.out]; exact (Ext.alloc w _).trans (Ext.alloc _ _)
  have B0 : Hid (Blk W0 w.heap.size #[.slice Ac nc cc, .slice Al nl cl, .int .i64 r, .int .i64 b, .int .i64 p, .int .i64 f] 26) := by rw [hW0.out]; exact (Blk.new rfl _ _).alloc _
  have B1 : Hid (Blk W0 (w.heap.size + 1) #[.slice A1 m c1, .slice A2 m2 c2, .bool q] 47) := by rw [hW0.out]; exact Blk.new (by simp) _ _
  have zW := X0.out.size
  obtain ⟨nm, hnm⟩ : ∃ nm, Hid (x.1[0]? = some nm) := get_ex x.1 0 (by rw [hm.out]; omega)
  obtain ⟨bn, on, rfl, hbn, u0, -⟩ := H1.out.str 0 nm hnm.out
  have FA : Hid (famI d x = if findF d.1 nm < 0 then -1 else (d.1.getD (findF d.1 nm).toNat noEl).2.1) := by show _ = _; unfold famI familyF; rw [getD_some hnm.out]
  have FK : Hid (0 ≤ findF d.1 nm → ∃ (k : Nat) (y : ElD), findF d.1 nm = k ∧ d.1[k]? = some y) := fun h => by
    obtain ⟨k, y, e1, e2, _⟩ := findF_some h
    exact ⟨k, y, e1, e2⟩
  have FB := findF_ge d.1 nm
  have FE := hide (fun dd os => ext_regrown (s.cdFind_m (grow (redrawn W0 dd) os) _ d nm (kC.rd_ext HR.out (X0.out.trans (ext_re W0 dd os))) hok))
  obtain ⟨F, hF⟩ : ∃ F, Hid (findF d.1 nm = F) := ⟨_, rfl⟩
  rw [hF.out] at FE FA FK FB
  obtain ⟨R, hR⟩ : ∃ R, Hid (famI d x = R) := ⟨_, rfl⟩
  rw [hR.out] at FA ⊢
  simp only [Nat.add_zero] at u0
  have U0 : W0.cell? ⟨bn, on, none⟩ = some (.string (bs nm)) := (X0.out.cell hbn).trans u0
  have c0_ := fun dd os => (B0.out.ext (ext_re W0 dd os)).cell
  have c1_ := fun dd os => (B1.out.ext (ext_re W0 dd os)).cell
  have u0_ := fun dd os => cell_regrown U0 dd os
  have p1 : 0 < m := by omega
  clear u0 U0
  generalize bs nm = nb at *
  go_enter Tryz.func141, Tryz.ntmps141
  go_wp2
  rw [← hW0.out]
  clear hW0
  refine wp_region_quiet_below (by kernel_rfl) (by kernel_rfl) ?_
  repeat (go_big_quiet_step ((go_at_call 125; exact FE.out _ _)))
  refine wpQuiet_nil ?_
  intro _ hw'
  obtain ⟨⟨dq, osq⟩, hw''⟩ := hw'
  subst hw''
  have Y2 := hide (ext_re W0 dq osq)
  have B2 := hide (B0.out.ext Y2.out)
  clear c0_ c1_ u0_
  generalize grow (redrawn W0 dq) osq = w2 at *
  by_cases hneg : F < 0
  · have HF : Hid (R = -1) := by show _ = _; rw [FA.out, if_pos hneg]
    clear FA FK
    go_wp2
    go_ret
    exact ⟨ret_int HF.out.symm, X0.out.trans Y2.out⟩
  · obtain ⟨k, y, hk, hy⟩ := FK.out (by omega)
    rw [hk, if_neg (by omega), Int.toNat_natCast, getD_some hy] at FA
    have hl := HLE.out
    obtain ⟨be, oe, rfl, hbe, g0, u1, g2, g3, xl⟩ := hl.element k y hy
    have kn : k < nc := by rw [← NC.out]; exact (List.getElem?_eq_some_iff.1 hy).1
    have n24 : nc ≤ 24 := by rw [← NC.out]; exact HD.out.n2
    have cx1 := hl.1; have cx2 := hl.2.1
    rw [NC.out] at cx1
    have cE := ((X0.out.trans Y2.out).cell hbe).trans u1
    have cB := B2.out.cell
    clear g0 u1 g2 g3 xl hl FK hy
    subst hk
    generalize y.2.1 = z at *
    go_wp2
    go_ret
    exact ⟨ret_int FA.out.symm, X0.out.trans Y2.out⟩
end Go.Proofs.YtaoeomgehpdedaaGreat

/- How many items each family has. -/
namespace Go.Proofs.YtaoeomgehpdedaaGreat
open Go.RowKit Go.Sort
set_option linter.unusedVariables false

set_option maxRecDepth 100000 in
set_option maxHeartbeats 2000000 in
theorem s.pgCounts_m (w : World) (v : Value) (d : CoD) (A : Option Addr) (c B : Nat) (xs : List ItD) (h : kC.rd w v d) (hok : kC.ok d) (hd : CodeOk d) (hi : LR kdItem w B A c xs) (hB : B ≤ w.heap.size) (h14 : xs.length ≤ 14) (h3 : ∀ x ∈ xs, 1 ≤ x.1.length ∧ x.1.length ≤ 3) :
    Calls Tryz.prog 138 #[v, .slice A xs.length c] w fun e w' => ∃ A' c', e = .returned (.slice A' 5 c') ∧ OwnI 3 w' w.heap.size A' 5 c' (fcL d xs xs.length) ∧ Ext w w' := by
  obtain ⟨Ac, nc, cc, Al, nl, cl, r, b, p, f, rfl⟩ := kC.shape h
  obtain ⟨i0, hi0, hz0, hz1, hz2⟩ := info_parts info_int
  have HZ := hide hz2
  have HI0 := hide hi0
  have HZ0 := hide hz0
  have HZ1 := hide hz1
  clear hz2 hi0 hz0 hz1
  have HR := hide h
  have H := hide hi
  have H3 := hide h3
  have HD := hide hd
  have a1 := hi.1; have a2 := hi.2.1
  clear h hi h3 hd
  obtain ⟨n, hn⟩ : ∃ n, Hid (xs.length = n) := ⟨_, rfl⟩
  rw [hn.out] at h14 a1 ⊢
  obtain ⟨W0, hW0⟩ : ∃ W0, Hid (W0 = w.alloc (.cells #[.slice Ac nc cc, .slice Al nl cl, .int .i64 r, .int .i64 b, .int .i64 p, .int .i64 f] 26)) := ⟨_, rfl⟩
  have X0 : Hid (Ext w W0) := by rw [hW0.out]; exact Ext.alloc w _
  have B0 : Hid (Blk W0 w.heap.size #[.slice Ac nc cc, .slice Al nl cl, .int .i64 r, .int .i64 b, .int .i64 p, .int .i64 f] 26) := by rw [hW0.out]; exact Blk.new rfl _ _
  have c0 := B0.out.cell
  rw [hW0.out] at c0
  go_enter Tryz.func138, Tryz.ntmps138
  go_wp2_with (at_make; rw [← hW0.out]; refine wpList_make_full _ rfl _ _ _ rfl W0.heap.size 3 i0 _ 1 Tryz.underlying24 HI0.out HZ0.out HZ1.out _ _ _ _ 5 rfl rfl rfl rfl ?c1 ?c2 ?c3 ?_)
  case c1 => rw [HZ.out]; omega
  case c2 => unfold maxLen; omega
  case c3 => exact Nat.le_refl _
  intro w2 hown hgrow
  clear hW0 c0
  rw [made_zeroR] at hown
  have hb1 : Ext W0 w2 := (Ext.refl W0).grown hgrow (Nat.le_refl _) (by simp)
  have O1 : Hid (OwnI 3 w2 W0.heap.size (some ⟨W0.heap.size, 0, none⟩) 5 5 (fcL d xs 0)) := by rw [fcL_zero]; exact hown
  obtain ⟨g, hg⟩ : ∃ g, Hid (g = W0.heap.size) := ⟨_, rfl⟩
  rw [← hg.out] at O1
  rw [← hg.out]
  have gl : W0.heap.size ≤ g := by rw [hg.out]; exact Nat.le_refl _
  have z0 := X0.out.size
  have gw : g < w2.heap.size := by
    rcases OwnI.form O1.out with ⟨h, _⟩ | ⟨g', h, _, h2, _⟩
    · cases h
    · injection h with h; injection h with h; omega
  have X2 := hide hb1
  have B2 := hide (B0.out.ext hb1)
  clear hown hgrow hb1
  have cB := B2.out.cell
  go_wp2
  clear cB
  go_loopw [12] (fun i wr => ∃ (k : Nat), k ≤ n ∧ i = .int .i64 k ∧ OwnI 3 wr g (some ⟨g, 0, none⟩) 5 5 (fcL d xs k) ∧ Ext W0 wr) (fun i _ => n - (intOf i).toNat)
  case atStart => exact ⟨0, Nat.zero_le _, rfl, O1.out, X2.out⟩
  case round =>
    obtain ⟨k, hk, rfl, ho, hx⟩ := hrel
    clear O1 X2
    have OK := hide ho
    have HX := hide hx
    clear ho hx
    by_cases hlt : k < n
    · obtain ⟨x, hxk⟩ : ∃ x, Hid (xs[k]? = some x) := get_exP xs k (by rw [hn.out]; exact hlt)
      have XW := hide (X0.out.trans HX.out)
      obtain ⟨bb, off, A1, c1, A2, c2, rfl, hb, q0, q1, q2, r1, r2⟩ := (H.out.ext XW.out hB).item k x hxk.out
      have k1 := H3.out x (List.mem_of_getElem? hxk.out)
      have sz := XW.out.size
      obtain ⟨W1, hW1⟩ : ∃ W1, Hid (W1 = wr.alloc (.cells #[.slice A1 x.1.length c1, .slice A2 x.2.1.length c2, .bool x.2.2] 47)) := ⟨_, rfl⟩
      have Y1 : Hid (Ext wr W1) := by rw [hW1.out]; exact Ext.alloc _ _
      have X1 : Hid (Ext W0 W1) := HX.out.trans Y1.out
      have B1 : Hid (Blk W1 wr.heap.size #[.slice A1 x.1.length c1, .slice A2 x.2.1.length c2, .bool x.2.2] 47) := by rw [hW1.out]; exact Blk.new rfl _ _
      have MK := hide (kdItem.rd_more (kdItem.mk_ (r1.ext Y1.out (by omega)) (r2.ext Y1.out (by omega))) (Nat.le_trans hB (X0.out.trans X1.out).size))
      have b1 := r1.1; have b2 := r1.2.1; have b3 := r2.1; have b4 := r2.2.1
      have FA := hide (s.pgFamily_c W1 _ d _ x (kC.rd_ext HR.out (X0.out.trans X1.out)) hok HD.out MK.out k1.1)
      rw [kdItem.val3] at FA
      have fb := famI_bd HD.out x
      have SK : Hid (famI d x < 0 → fcL d xs (k + 1) = fcL d xs k) := fun h => fcL_skip hxk.out h
      have HT : Hid (∀ fa : Nat, famI d x = fa → fa < 5 → fcL d xs (k + 1) = (fcL d xs k).set fa ((fcL d xs k).getD fa 0 + 1)) := fun fa h1 h2 => fcL_hit hxk.out h1 h2
      have CB := hide (fun fa => fcL_bd d xs k fa)
      obtain ⟨F, hF⟩ : ∃ F, Hid (famI d x = F) := ⟨_, rfl⟩
      rw [hF.out] at FA fb SK HT
      clear r1 r2 MK
      generalize x.1.length = m1 at *
      generalize x.2.1.length = m2 at *
      generalize x.2.2 = m3 at *
      have cI := B1.out.cell
      have cC := (B0.out.ext X1.out).cell
      rw [hW1.out] at cI cC
      go_wp2_with fail
      rw [← hW1.out]
      clear hW1 cI cC q0 q1 q2
      refine FA.out.mono ?_
      rintro e w5 ⟨rfl, x5⟩
      have X5 := hide (X1.out.trans x5)
      have O5 := hide (OwnI.below OK.out (Y1.out.trans x5) (Nat.le_refl _))
      clear x5 FA
      by_cases hneg : F < 0
      · have SE := hide (SK.out hneg)
        clear SK HT
        go_wp2
        go_roundw
        case rel => exact ⟨k + 1, by omega, by go_num, by rw [SE.out]; exact O5.out, X5.out⟩
        case measure => simp [intOf]; omega
      · obtain ⟨fa, hfa⟩ : ∃ fa : Nat, F = (fa : Int) := ⟨F.toNat, by omega⟩
        have f5 : fa < 5 := by omega
        have SS := hide (HT.out fa hfa f5)
        have sb := CB.out fa
        subst hfa
        have cO := O5.out.cell fa f5
        have fO := O5.out.free fa
        obtain ⟨S, hS⟩ : ∃ S, Hid ((fcL d xs k).getD fa 0 = S) := ⟨_, rfl⟩
        rw [hS.out] at cO SS sb
        have YS : Hid (Ext W0 (w5.setCell ⟨g, fa, none⟩ (.int .i64 (S + 1)))) := Below.setCell X5.out (by simpa using gl) _
        have O6 : Hid (OwnI 3 (w5.setCell ⟨g, fa, none⟩ (.int .i64 (S + 1))) g (some ⟨g, 0, none⟩) 5 5 (fcL d xs (k + 1))) := by
          rw [SS.out]
          exact O5.out.set fa _
        clear SK HT CB
        go_wp2
        clear cO fO
        generalize w5.setCell ⟨g, fa, none⟩ (.int .i64 (S + 1)) = w6 at *
        go_roundw
        case rel => exact ⟨k + 1, by omega, by go_num, O6.out, YS.out⟩
        case measure => simp [intOf]; omega
    · have ek : n = k := by omega
      subst ek
      go_wp2
      go_ret
      exact ⟨_, _, rfl, OwnI.lower OK.out (by omega), X0.out.trans HX.out⟩
end Go.Proofs.YtaoeomgehpdedaaGreat

/- Items without marks, and families within their limits (the program). -/
namespace Go.Proofs.YtaoeomgehpdedaaGreat
open Go.RowKit Go.Sort
set_option linter.unusedVariables false

end Go.Proofs.YtaoeomgehpdedaaGreat

/- A rule holds (the program). -/
namespace Go.Proofs.YtaoeomgehpdedaaGreat
open Go.RowKit Go.Sort
set_option linter.unusedVariables false

/-- What the rules ask of a list. -/
structure PgOk (d : CoD) (xs : List ItD) : Prop where
  cd : CodeOk d
  n14 : xs.length ≤ 14
  n3 : ∀ x ∈ xs, 1 ≤ x.1.length ∧ x.1.length ≤ 3
  wt : wtL kdItem xs ≤ 1048576
theorem PgOk.le3 {d : CoD} {xs : List ItD} (h : PgOk d xs) : ∀ x ∈ xs, x.1.length ≤ 3 := fun x hx => (h.n3 x hx).2
theorem PgOk.wtk {d : CoD} {xs : List ItD} (h : PgOk d xs) : ∀ (k : Nat) (x : ItD), xs[k]? = some x → kdItem.wt x ≤ 1048576 := fun k x hk => Nat.le_trans (wtL_at kdItem xs k x hk) h.wt

end Go.Proofs.YtaoeomgehpdedaaGreat

/- A rule holds (the reference). -/
namespace Go.Proofs.YtaoeomgehpdedaaGreat
open Go.RowKit Go.Sort
set_option linter.unusedVariables false

set_option maxRecDepth 100000 in
set_option maxHeartbeats 4000000 in
theorem s.pgHolds_m (w : World) (v : Value) (d : CoD) (A : Option Addr) (c B : Nat) (xs : List ItD) (r : Int) (h : kC.rd w v d) (hok : kC.ok d) (hg : PgOk d xs) (hi : LR kdItem w B A c xs) (hB : B ≤ w.heap.size) (hr1 : 1 ≤ r) (hr8 : r ≤ 8) :
    Calls Tryz.prog 135 #[v, .slice A xs.length c, .int .i64 r] w fun e w' => e = .returned (.bool (ruleB d xs r)) ∧ Ext w w' := by
  obtain ⟨Ac, cc, Al, cl, rfl, _, hll⟩ := kC.lr h
  obtain ⟨nc, NC⟩ : ∃ z, Hid (d.1.length = z) := ⟨_, rfl⟩
  have nl5 := hg.cd.lim
  rw [nl5] at h ⊢
  obtain ⟨rr, RN⟩ : ∃ z, Hid (d.2.2.1 = z) := ⟨_, rfl⟩
  obtain ⟨b, BN⟩ : ∃ z, Hid (d.2.2.2.1 = z) := ⟨_, rfl⟩
  obtain ⟨p, PN⟩ : ∃ z, Hid (d.2.2.2.2.1 = z) := ⟨_, rfl⟩
  obtain ⟨f, FN⟩ : ∃ z, Hid (d.2.2.2.2.2 = z) := ⟨_, rfl⟩
  rw [NC.out, RN.out, BN.out, PN.out, FN.out] at h ⊢
  have a1 := hi.1; have a2 := hi.2.1
  have b1 := hll.1; have b2 := hll.2.1
  have HLL := hide hll
  have N5 := hide nl5
  have HD := hide hg.cd
  have h14 := hg.n14
  obtain ⟨W0, hW0⟩ : ∃ W0, Hid (W0 = w.alloc (.cells #[.slice Ac nc cc, .slice Al 5 cl, .int .i64 rr, .int .i64 b, .int .i64 p, .int .i64 f] 26)) := ⟨_, rfl⟩
  have X0 : Hid (Ext w W0) := by rw [hW0.out]; exact Ext.alloc w _
  have B0 : Hid (Blk W0 w.heap.size #[.slice Ac nc cc, .slice Al 5 cl, .int .i64 rr, .int .i64 b, .int .i64 p, .int .i64 f] 26) := by rw [hW0.out]; exact Blk.new rfl _ _
  have HR0 := kC.rd_ext h X0.out
  have HI0 := hi.ext X0.out hB
  have HB0 := Nat.le_trans hB X0.out.size
  have CN := hide (fun r9 (h9 : r9 = 2 ∨ r9 = 4 ∨ r9 = 7) => s.pgNames_m W0 _ d A c B xs r9 HR0 hok hg.cd HI0 HB0 h14 hg.le3 h9)
  have C3 := hide (s.pgClean_any W0 A c B xs HI0 HB0 hg.wt)
  have C5 := hide (s.pgCombined_m W0 A c B xs HI0 HB0 h14 hg.le3)
  have C6 := hide (s.pgCounts_m W0 _ d A c B xs HR0 hok hg.cd HI0 HB0 h14 hg.n3)
  have C8 := hide (s.pgHalf_m W0 A c B xs HI0 HB0 h14)
  have E1 : Hid (ruleB d xs 1 = decide (0 < (xs.length : Int))) := rfl
  have E3 : Hid (ruleB d xs 3 = xs.all unmP) := rfl
  have E5 : Hid (ruleB d xs 5 = (decide ((twoN xs : Int) ≤ 3) && decide ((threeN xs : Int) ≤ 1))) := rfl
  have E8 : Hid (ruleB d xs 8 = lateB xs) := rfl
  have R6 := hide (rule6 d xs)
  have CB := hide (fun k => fcL_bd d xs xs.length k)
  have CA : Hid (∀ k, k < 5 → fitAt d xs k = decide ((fcL d xs xs.length).getD k 0 ≤ d.2.1.getD k 0)) := fun k hk => by
    unfold fitAt
    rw [fcL_at _ _ _ _ hk, List.take_length]
  clear h hi hg HR0 HI0 HB0 hll nl5
  obtain ⟨n, hn⟩ : ∃ n, Hid (xs.length = n) := ⟨_, rfl⟩
  rw [hn.out] at a1 h14 CN C3 C5 C6 C8 E1 CB CA ⊢
  have RA := hide (fun k (hk : k < 5) => (List.getElem?_range hk : (List.range 5)[k]? = some k))
  have hc : r = 1 ∨ r = 3 ∨ r = 5 ∨ r = 6 ∨ r = 8 ∨ (r = 2 ∨ r = 4 ∨ r = 7) := by omega
  clear hr1 hr8
  rcases hc with rfl | rfl | rfl | rfl | rfl | h9
  · rw [E1.out]
    clear CN C3 C5 C6 C8 E1 E3 E5 E8 R6 CB CA
    by_cases h0 : 0 < n
    · rw [show decide (0 < (n : Int)) = true from by simp; omega]
      go_enter Tryz.func135, Tryz.ntmps135
      go_wp2
      rw [← hW0.out]
      go_ret
      exact ⟨rfl, X0.out⟩
    · have h1 : ¬ 0 < (n : Int) := by omega
      rw [show decide (0 < (n : Int)) = false from by simp; omega]
      go_enter Tryz.func135, Tryz.ntmps135
      go_wp2
      rw [← hW0.out]
      go_ret
      exact ⟨rfl, X0.out⟩
  · rw [E3.out]
    clear CN C5 C6 C8 E1 E3 E5 E8 R6 CB CA
    generalize xs.all unmP = F at *
    go_enter Tryz.func135, Tryz.ntmps135
    go_wp2_with fail
    rw [← hW0.out]
    clear hW0
    refine C3.out.mono ?_
    rintro e w1 ⟨rfl, x1⟩
    have X1 := hide (X0.out.trans x1)
    clear x1 C3
    go_wp2
    go_ret
    exact ⟨rfl, X1.out⟩
  · obtain ⟨R, hR⟩ : ∃ R, Hid (ruleB d xs 5 = R) := ⟨_, rfl⟩
    rw [hR.out] at E5 ⊢
    clear CN C3 C6 C8 E1 E3 E8 R6 CB CA
    generalize twoN xs = ta at *
    generalize threeN xs = tb at *
    go_enter Tryz.func135, Tryz.ntmps135
    go_wp2_with fail
    rw [← hW0.out]
    clear hW0
    refine C5.out.mono ?_
    rintro e w1 ⟨rfl, x1⟩
    have X1 := hide (X0.out.trans x1)
    clear x1 C5
    by_cases g1 : (ta : Int) ≤ 3
    · have HF : Hid (R = decide ((tb : Int) ≤ 1)) := by show _ = _; rw [E5.out]; simp [g1]
      go_wp2
      go_ret
      exact ⟨ret_bool HF.out.symm, X1.out⟩
    · have HF : Hid (R = false) := by show _ = _; rw [E5.out]; simp [g1]
      go_wp2
      go_ret
      exact ⟨ret_bool HF.out.symm, X1.out⟩
  · clear CN C3 C5 C8 E1 E3 E5 E8
    obtain ⟨R, hR⟩ : ∃ R, Hid (ruleB d xs 6 = R) := ⟨_, rfl⟩
    rw [hR.out] at R6 ⊢
    have cB0 := B0.out.cell
    rw [hW0.out] at cB0
    go_enter Tryz.func135, Tryz.ntmps135
    go_wp2_with fail
    rw [← hW0.out]
    clear hW0 cB0
    refine C6.out.mono ?_
    rintro e w1 ⟨A5, c5, rfl, o5, x5⟩
    have O5 := hide o5
    have X5 := hide x5
    have oc1 := o5.capn; have oc2 := o5.capm
    clear o5 x5 C6
    go_wp2
    go_loopw [40] (fun i wr => ∃ (k : Nat), k ≤ 5 ∧ i = .int .i64 k ∧ ((List.range 5).take k).all (fitAt d xs) = true ∧ Ext w1 wr) (fun i _ => 5 - (intOf i).toNat)
    case atStart => exact ⟨0, Nat.zero_le _, rfl, rfl, Ext.refl _⟩
    case round =>
      obtain ⟨k, hk, rfl, hall, hx⟩ := hrel
      have HA := hide hall
      have HX := hide hx
      clear hall hx
      by_cases hlt : k < 5
      · have XA := hide (X5.out.trans HX.out)
        have OK := hide (OwnI.below O5.out HX.out (Nat.le_refl _))
        obtain ⟨g, rfl, hg1, hg2, _⟩ := OwnI.pos OK.out (by omega)
        have cO := OwnI.cell OK.out k hlt
        have cB := (B0.out.ext XA.out).cell
        obtain ⟨z, hz⟩ : ∃ z, Hid (d.2.1[k]? = some z) := get_exP d.2.1 k (by rw [N5.out]; exact hlt)
        obtain ⟨bl, ol, rfl, hbl, hcl⟩ := (HLL.out.sl.ext (X0.out.trans XA.out) (Nat.le_refl _)).cells (by rw [N5.out]; omega)
        have cL := hcl k (by rw [N5.out]; exact hlt)
        have FI := hide (CA.out k hlt)
        have cb := CB.out k
        have lb := HD.out.limb z (List.mem_of_getElem? hz.out)
        rw [getD_some hz.out] at cL
        rw [show d.2.1.getD k 0 = z from getD_some hz.out] at FI
        obtain ⟨S, hS⟩ : ∃ S, Hid ((fcL d xs n).getD k 0 = S) := ⟨_, rfl⟩
        rw [hS.out] at cO FI cb
        have i5 : (k : Int) < 5 := by omega
        clear hcl
        by_cases hle : z < S
        · have HN : Hid (fitAt d xs k = false) := by show _ = _; rw [FI.out]; simp; omega
          have HF : Hid (R = false) := by show _ = _; rw [R6.out]; exact allL_stop (RA.out k hlt) HN.out
          go_wp2
          go_ret
          exact ⟨ret_bool HF.out.symm, X0.out.trans XA.out⟩
        · have HN : Hid (fitAt d xs k = true) := by show _ = _; rw [FI.out]; simp; omega
          go_wp2
          go_roundw
          case rel => exact ⟨k + 1, by omega, by go_num, allL_step (RA.out k hlt) HA.out HN.out, HX.out⟩
          case measure => simp [intOf]; omega
      · have HF : Hid (R = true) := by show _ = _; rw [R6.out]; exact allL_end (by simp; omega) HA.out
        go_wp2
        go_ret
        exact ⟨ret_bool HF.out.symm, X0.out.trans (X5.out.trans HX.out)⟩
  · rw [E8.out]
    clear CN C3 C5 C6 E1 E3 E5 E8 R6 CB CA
    generalize lateB xs = F at *
    go_enter Tryz.func135, Tryz.ntmps135
    go_wp2_with fail
    rw [← hW0.out]
    clear hW0
    refine C8.out.mono ?_
    rintro e w1 ⟨rfl, x1⟩
    have X1 := hide (X0.out.trans x1)
    clear x1 C8
    go_wp2
    go_ret
    exact ⟨rfl, X1.out⟩
  · have E9 : ruleB d xs r = namesR d xs r := by rcases h9 with rfl | rfl | rfl <;> rfl
    have CQ := hide (CN.out r h9)
    rw [E9]
    clear CN C3 C5 C6 C8 E1 E3 E5 E8 R6 CB CA E9
    generalize namesR d xs r = F at *
    have cB0 := B0.out.cell
    rw [hW0.out] at cB0
    rcases h9 with rfl | rfl | rfl
    all_goals
      go_enter Tryz.func135, Tryz.ntmps135
      go_wp2_with fail
      rw [← hW0.out]
      clear hW0 cB0
      refine CQ.out.mono ?_
      rintro e w1 ⟨rfl, x1⟩
      have X1 := hide (X0.out.trans x1)
      clear x1 CQ
      go_wp2
      go_ret
      exact ⟨rfl, X1.out⟩
end Go.Proofs.YtaoeomgehpdedaaGreat

/- The broken rules; a programme. -/
namespace Go.Proofs.YtaoeomgehpdedaaGreat
open Go.RowKit Go.Sort
set_option linter.unusedVariables false

theorem pgOk {d : CoD} {xs : List ItD} (hd : codeB d = true) (hi : itemsB xs = true) (hw : wtL kdItem xs ≤ 1048576) : PgOk d xs := by
  simp only [itemsB, Bool.and_eq_true, List.all_eq_true, decide_eq_true_eq] at hi
  exact ⟨codeB_ok hd, by omega, fun x hx => by have := itemB_ok (hi.1 x hx); omega, hw⟩
def brkF (d : CoD) (xs : List ItD) : List Int × Bool := if codeB d && itemsB xs then (brokenF d xs, true) else ([], false)
theorem brokenN_len (d : CoD) (xs : List ItD) (k : Nat) : (brokenN d xs k).length ≤ k := by
  unfold brokenN
  exact Nat.le_trans (List.length_filter_le _ _) (by simp)

set_option maxRecDepth 100000 in
set_option maxHeartbeats 4000000 in
theorem s.pgFaults_m (w : World) (v : Value) (d : CoD) (A : Option Addr) (c B : Nat) (xs : List ItD) (h : kC.rd w v d) (hok : kC.ok d) (hi : LR kdItem w B A c xs) (hB : B ≤ w.heap.size) (hg : PgOk d xs) :
    Calls Tryz.prog 133 #[v, .slice A xs.length c] w fun e w' => ∃ A' c' m, e = .returned (.slice A' m c') ∧ OwnI 3 w' w.heap.size A' m c' (brokenF d xs) ∧ Ext w w' := by
  obtain ⟨Ac, nc, cc, Al, nl, cl, rr, b, p, f, rfl⟩ := kC.shape h
  have HR := hide h
  have H := hide hi
  have a1 := hi.1; have a2 := hi.2.1
  obtain ⟨W0, hW0⟩ : ∃ W0, Hid (W0 = w.alloc (.cells #[.slice Ac nc cc, .slice Al nl cl, .int .i64 rr, .int .i64 b, .int .i64 p, .int .i64 f] 26)) := ⟨_, rfl⟩
  have X0 : Hid (Ext w W0) := by rw [hW0.out]; exact Ext.alloc w _
  have B0 : Hid (Blk W0 w.heap.size #[.slice Ac nc cc, .slice Al nl cl, .int .i64 rr, .int .i64 b, .int .i64 p, .int .i64 f] 26) := by rw [hW0.out]; exact Blk.new rfl _ _
  have RQ := hide (fun (r : Int) (h1 : 1 ≤ r) (h8 : r ≤ 8) (wq : World) (xq : Ext w wq) => s.pgHolds_m wq _ d A c B xs r (kC.rd_ext HR.out xq) hok hg (H.out.ext xq hB) (Nat.le_trans hB xq.size) h1 h8)
  have SU := hide (fun k => brokenN_succ d xs k)
  have BL := hide (fun k => brokenN_len d xs k)
  obtain ⟨F, hF⟩ : ∃ F, Hid (brokenN d xs 8 = F) := ⟨_, rfl⟩
  have eF : brokenF d xs = F := hF.out
  rw [eF]
  clear h hi eF hg
  obtain ⟨n, hn⟩ : ∃ n, Hid (xs.length = n) := ⟨_, rfl⟩
  rw [hn.out] at a1 RQ ⊢
  have O0 : Hid (OwnI 3 W0 W0.heap.size none 0 0 (brokenN d xs 0)) := OwnI.nil
  have Y0 := hide (Ext.refl W0)
  have z2 := X0.out.size
  go_enter Tryz.func133, Tryz.ntmps133
  go_wp2
  rw [← hW0.out]
  clear hW0
  go_loopw [5, 6] (fun o i0 wr => ∃ (k m : Nat) (A5 : Option Addr) (c5 : Nat), k ≤ 8 ∧ i0 = .int .i64 ((k : Int) + 1) ∧ o = .slice A5 m c5 ∧ OwnI 3 wr W0.heap.size A5 m c5 (brokenN d xs k) ∧ Ext W0 wr) (fun _ i0 _ => 9 - (intOf i0).toNat)
  case atStart => exact ⟨0, 0, _, _, Nat.zero_le _, rfl, rfl, O0.out, Y0.out⟩
  case round =>
    obtain ⟨k, m, A5, c5, hk, rfl, rfl, hown, hx⟩ := hrel
    clear O0 Y0
    have HO := hide hown
    have HX := hide hx
    have oc1 := hown.capn; have oc2 := hown.capm
    have ol := hown.len
    clear hown hx
    have bl := BL.out k
    by_cases hlt : k < 8
    · have m8 : m ≤ 8 := by omega
      clear bl ol
      have XA := hide (X0.out.trans HX.out)
      have cB := (B0.out.ext HX.out).cell
      have RK := hide (RQ.out ((k : Int) + 1) (by omega) (by omega) wr XA.out)
      have SK := hide (SU.out k)
      obtain ⟨U, hU⟩ : ∃ U, Hid (ruleB d xs ((k : Int) + 1) = U) := ⟨_, rfl⟩
      rw [hU.out] at RK SK
      have i8 : (k : Int) + 1 ≤ 8 := by omega
      go_wp2_with fail
      refine RK.out.mono ?_
      rintro e w5 ⟨rfl, x5⟩
      have X5 := hide (HX.out.trans x5)
      have O5 := hide (OwnI.below HO.out x5 (Nat.le_refl _))
      clear x5 RK cB
      cases U
      · rw [if_neg (by decide)] at SK
        obtain ⟨L, hL⟩ : ∃ L, Hid (brokenN d xs k = L) := ⟨_, rfl⟩
        rw [hL.out] at O5 SK
        go_wp2_with (at_builtin; refine wpList_append_sl rfl (.tmp 16) (.tmp 18) rfl elem_int rfl rfl (lo := W0.heap.size) (Own.alloc O5.out (.cells #[.int .i64 ((k : Int) + 1)] 3)) (Sl.one w5 (.int .i64 ((k : Int) + 1)) 3) (one_int _) ?c1 ?c2 ?c3 ?_)
        case c1 => omega
        case c2 => omega
        case c3 => simp; have := X5.out.size; omega
        intro A9 c9 w9 hap
        have XE := hide (hap.ext (X5.out.trans (Ext.alloc w5 _)) (Own.fromLo O5.out))
        have HAP := hide hap
        clear hap
        go_wp2
        go_roundw
        case rel => exact ⟨k + 1, m + 1, A9, c9, by omega, by go_num, rfl, by rw [SK.out]; exact own_conv HAP.out.own (Nat.le_refl _) rfl (by simp), XE.out⟩
        case measure => simp [intOf]; omega
      · rw [if_pos rfl] at SK
        go_wp2
        go_roundw
        case rel => exact ⟨k + 1, m, A5, c5, by omega, by go_num, rfl, by rw [SK.out]; exact O5.out, X5.out⟩
        case measure => simp [intOf]; omega
    · have ek : k = 8 := by omega
      subst ek
      clear bl ol
      rw [hF.out] at HO
      go_wp2
      go_ret
      exact ⟨_, _, _, rfl, OwnI.lower HO.out (by omega), X0.out.trans HX.out⟩
end Go.Proofs.YtaoeomgehpdedaaGreat

/- A list is a programme. -/
namespace Go.Proofs.YtaoeomgehpdedaaGreat
open Go.RowKit Go.Sort
set_option linter.unusedVariables false

theorem progB_no {d : CoD} {xs : List ItD} (h : (codeB d && itemsB xs) = false) : progB d xs = false := by unfold progB; rw [h]; rfl
theorem progB_yes {d : CoD} {xs : List ItD} (h : (codeB d && itemsB xs) = true) : progB d xs = decide (((brokenF d xs).length : Int) = 0) := by unfold progB; rw [h]; rfl

set_option maxRecDepth 100000 in
set_option maxHeartbeats 2000000 in
theorem s.pgAsked_m (w : World) (v : Value) (d : CoD) (A : Option Addr) (c B : Nat) (xs : List ItD) (h : kC.rd w v d) (hok : kC.ok d) (hi : LR kdItem w B A c xs) (hB : B ≤ w.heap.size) (hwt : wtL kdItem xs ≤ 1048576) :
    Calls Tryz.prog 132 #[v, .slice A xs.length c] w fun e w' => e = .returned (.bool (codeB d && itemsB xs)) ∧ Ext w w' := by
  obtain ⟨Ac, nc, cc, Al, nl, cl, rr, b, p, f, rfl⟩ := kC.shape h
  have a1 := hi.1; have a2 := hi.2.1
  obtain ⟨W0, hW0⟩ : ∃ W0, Hid (W0 = w.alloc (.cells #[.slice Ac nc cc, .slice Al nl cl, .int .i64 rr, .int .i64 b, .int .i64 p, .int .i64 f] 26)) := ⟨_, rfl⟩
  have X0 : Hid (Ext w W0) := by rw [hW0.out]; exact Ext.alloc w _
  have CG := hide (s.cdGood_m W0 _ d (kC.rd_ext h X0.out) hok)
  have IL := hide (fun (wq : World) (xq : Ext w wq) => s.itList_any wq A c B xs (hi.ext xq hB) (Nat.le_trans hB xq.size) hwt)
  clear h hi
  obtain ⟨n, hn⟩ : ∃ n, Hid (xs.length = n) := ⟨_, rfl⟩
  rw [hn.out] at a1 IL ⊢
  generalize codeB d = F at *
  generalize itemsB xs = G at *
  cases F
  · go_enter Tryz.func132, Tryz.ntmps132
    go_wp2_with fail
    rw [← hW0.out]
    clear hW0
    refine CG.out.mono ?_
    rintro e w1 ⟨rfl, x1⟩
    have X1 := hide (X0.out.trans x1)
    clear x1 CG IL
    go_wp2
    go_ret
    exact ⟨rfl, X1.out⟩
  · go_enter Tryz.func132, Tryz.ntmps132
    go_wp2_with fail
    rw [← hW0.out]
    clear hW0
    refine CG.out.mono ?_
    rintro e w1 ⟨rfl, x1⟩
    have X1 := hide (X0.out.trans x1)
    clear x1 CG
    go_wp2_with fail
    refine (IL.out w1 X1.out).mono ?_
    rintro e w2 ⟨rfl, x2⟩
    have X2 := hide (X1.out.trans x2)
    clear x2 IL
    go_wp2
    go_ret
    exact ⟨rfl, X2.out⟩

set_option maxRecDepth 100000 in
set_option maxHeartbeats 2000000 in
theorem s.pgGood_m (w : World) (v : Value) (d : CoD) (A : Option Addr) (c B : Nat) (xs : List ItD) (h : kC.rd w v d) (hok : kC.ok d) (hi : LR kdItem w B A c xs) (hB : B ≤ w.heap.size) (hwt : wtL kdItem xs ≤ 1048576) :
    Calls Tryz.prog 110 #[v, .slice A xs.length c] w fun e w' => e = .returned (.bool (progB d xs)) ∧ Ext w w' := by
  obtain ⟨Ac, nc, cc, Al, nl, cl, rr, b, p, f, rfl⟩ := kC.shape h
  have a1 := hi.1; have a2 := hi.2.1
  obtain ⟨W0, hW0⟩ : ∃ W0, Hid (W0 = w.alloc (.cells #[.slice Ac nc cc, .slice Al nl cl, .int .i64 rr, .int .i64 b, .int .i64 p, .int .i64 f] 26)) := ⟨_, rfl⟩
  have X0 : Hid (Ext w W0) := by rw [hW0.out]; exact Ext.alloc w _
  have B0 : Hid (Blk W0 w.heap.size #[.slice Ac nc cc, .slice Al nl cl, .int .i64 rr, .int .i64 b, .int .i64 p, .int .i64 f] 26) := by rw [hW0.out]; exact Blk.new rfl _ _
  have PA := hide (s.pgAsked_m W0 _ d A c B xs (kC.rd_ext h X0.out) hok (hi.ext X0.out hB) (Nat.le_trans hB X0.out.size) hwt)
  have PF := hide (fun (hg : (codeB d && itemsB xs) = true) (wq : World) (xq : Ext w wq) => s.pgFaults_m wq _ d A c B xs (kC.rd_ext h xq) hok (hi.ext xq hB) (Nat.le_trans hB xq.size) (pgOk (by rw [Bool.and_eq_true] at hg; exact hg.1) (by rw [Bool.and_eq_true] at hg; exact hg.2) hwt))
  have NO := hide (progB_no (d := d) (xs := xs))
  have YS := hide (progB_yes (d := d) (xs := xs))
  obtain ⟨R, hR⟩ : ∃ R, Hid (progB d xs = R) := ⟨_, rfl⟩
  rw [hR.out] at NO YS ⊢
  clear h hi
  obtain ⟨n, hn⟩ : ∃ n, Hid (xs.length = n) := ⟨_, rfl⟩
  rw [hn.out] at a1 PA PF ⊢
  cases hg : (codeB d && itemsB xs)
  · have HF := hide (NO.out hg)
    rw [hg] at PA
    clear hg NO YS PF
    go_enter Tryz.func110, Tryz.ntmps110
    go_wp2_with fail
    rw [← hW0.out]
    clear hW0
    refine PA.out.mono ?_
    rintro e w1 ⟨rfl, x1⟩
    have X1 := hide (X0.out.trans x1)
    clear x1 PA
    go_wp2
    go_ret
    exact ⟨ret_bool HF.out.symm, X1.out⟩
  · have HF := hide (YS.out hg)
    have PQ := hide (PF.out hg)
    rw [hg] at PA
    clear hg NO YS PF
    obtain ⟨bl, hbl⟩ : ∃ bl, Hid (brokenF d xs = bl) := ⟨_, rfl⟩
    rw [hbl.out] at PQ HF
    go_enter Tryz.func110, Tryz.ntmps110
    go_wp2_with fail
    rw [← hW0.out]
    clear hW0
    refine PA.out.mono ?_
    rintro e w1 ⟨rfl, x1⟩
    have X1 := hide (X0.out.trans x1)
    have cB := (B0.out.ext x1).cell
    clear x1 PA
    go_wp2_with fail
    refine (PQ.out w1 X1.out).mono ?_
    rintro e w2 ⟨A', c', m, rfl, ho, x2⟩
    have X2 := hide (X1.out.trans x2)
    have hl : Hid (bl.length = m) := ho.len
    rw [hl.out] at HF
    clear x2 PQ ho cB
    by_cases hm : m = 0
    · subst hm
      have HT : Hid (R = true) := by show _ = _; rw [HF.out]; simp
      clear HF hl
      go_wp2
      go_ret
      exact ⟨ret_bool HT.out.symm, X2.out⟩
    · have HT : Hid (R = false) := by show _ = _; rw [HF.out]; simp; omega
      have g1 : ((m : Int) == 0) = false := by rw [beq_eq_false_iff_ne]; omega
      clear HF hl
      go_wp2
      go_ret
      exact ⟨ret_bool HT.out.symm, X2.out⟩
end Go.Proofs.YtaoeomgehpdedaaGreat

/- Lists with Late as the rule says. -/
namespace Go.Proofs.YtaoeomgehpdedaaGreat
open Go.RowKit Go.Sort
set_option linter.unusedVariables false

def lateK (xs : List ItD) (k : Nat) : List ItD := (List.range xs.length).map (fun i => if i < k then lateD xs.length i (xs.getD i noItem) else xs.getD i noItem)
theorem lateK_len (xs : List ItD) (k : Nat) : (lateK xs k).length = xs.length := by simp [lateK]
theorem lateK_get (xs : List ItD) (k i : Nat) (h : i < xs.length) : (lateK xs k)[i]? = some (if i < k then lateD xs.length i xs[i] else xs[i]) := by
  unfold lateK
  rw [List.getElem?_map, List.getElem?_range h, Option.map_some, List.getD_eq_getElem?_getD, List.getElem?_eq_getElem h]
  rfl
theorem lateK_zero (xs : List ItD) : lateK xs 0 = xs := by
  apply List.ext_getElem?
  intro i
  by_cases h : i < xs.length
  · rw [lateK_get xs 0 i h, List.getElem?_eq_getElem h, if_neg (by omega)]
  · rw [List.getElem?_eq_none (by rw [lateK_len]; omega), List.getElem?_eq_none (by omega)]
theorem lateK_all (xs : List ItD) : lateK xs xs.length = lateL xs := by
  unfold lateK lateL
  refine List.map_congr_left fun i hi => ?_
  rw [if_pos (List.mem_range.1 hi)]
theorem lateK_at (xs : List ItD) {k : Nat} {x : ItD} (h : xs[k]? = some x) : (lateK xs k)[k]? = some x := by
  obtain ⟨hk, rfl⟩ := List.getElem?_eq_some_iff.1 h
  rw [lateK_get xs k k hk, if_neg (by omega)]
theorem lateK_set (xs : List ItD) {k : Nat} {x : ItD} (h : xs[k]? = some x) : (lateK xs k).set k (lateD xs.length k x) = lateK xs (k + 1) := by
  obtain ⟨hk, rfl⟩ := List.getElem?_eq_some_iff.1 h
  apply List.ext_getElem?
  intro i
  rw [List.getElem?_set, lateK_len]
  by_cases h : i < xs.length
  · rw [lateK_get xs (k + 1) i h, lateK_get xs k i h]
    by_cases hki : k = i
    · subst hki
      rw [if_pos rfl, if_pos h, if_pos (by omega)]
    · rw [if_neg hki]
      by_cases hi : i < k
      · rw [if_pos hi, if_pos (by omega)]
      · rw [if_neg hi, if_neg (by omega)]
  · rw [if_neg (by omega)]
    rw [List.getElem?_eq_none (by rw [lateK_len]; omega), List.getElem?_eq_none (by rw [lateK_len]; omega)]
theorem kdItem.own_late {w : World} {cs : List Value} {x : ItD} {f : List Nat} (h : kdItem.own w cs x f) (q : Bool) : cs[2]? = some (.bool x.2.2) ∧ kdItem.own w (cs.set 2 (.bool q)) (x.1, x.2.1, q) f := by
  obtain ⟨v1, v2, f1, f2, hcs0, ⟨A1, c1, rfl, l1⟩, ⟨v3, v4, f3, f4, rfl, ⟨A2, c2, rfl, l2⟩, ⟨h4, rfl⟩, hf2, _⟩, hf, hnd⟩ := h
  have h4 : v4 = [.bool x.2.2] := h4
  subst h4
  simp only [List.append_nil] at hf2
  subst hf2
  have hcs0 : cs = [.slice A1 x.1.length c1, .slice A2 x.2.1.length c2, .bool x.2.2] := hcs0
  subst hcs0
  subst hf
  have hdj : ∀ i ∈ f1, i ∉ f2 := by rw [List.nodup_append] at hnd; exact fun i hi hi' => hnd.2.2 i hi i hi' rfl
  exact ⟨rfl, kdItem.mkOwn (d := (x.1, x.2.1, q)) l1 l2 hdj⟩

set_option maxRecDepth 100000 in
set_option maxHeartbeats 2000000 in
theorem s.pgLate_m (w : World) (A : Option Addr) (c B : Nat) (xs : List ItD) (h : LR kdItem w B A c xs) (hB : B ≤ w.heap.size) (hwt : wtL kdItem xs ≤ 1048576) :
    Calls Tryz.prog 109 #[.slice A xs.length c] w fun e w' => ∃ A' c' fp, e = .returned (.slice A' xs.length c') ∧ LO kdItem 47 w' A' c' (lateL xs) fp ∧ (∀ i ∈ fp, w.heap.size ≤ i) ∧ Ext w w' := by
  have CI := hide (s.itOwn_any w A c B xs h hB hwt)
  have hlen := wtL_len kdItem xs
  have hn0 : xs.length ≤ 1048576 := by omega
  have a1 := h.1; have a2 := h.2.1
  have LA := hide (lateK_all xs)
  have LS := hide (fun (k : Nat) (x : ItD) (hx : xs[k]? = some x) => lateK_set xs hx)
  clear h hwt hlen
  obtain ⟨n, hn⟩ : ∃ n, Hid (xs.length = n) := ⟨_, rfl⟩
  rw [hn.out] at CI hn0 a1 LA LS ⊢
  go_enter Tryz.func109, Tryz.ntmps109
  go_wp2_with fail
  refine CI.out.mono ?_
  rintro e w1 ⟨A1, c1, fp, rfl, ho, hf, hx⟩
  have HO : Hid (LO kdItem 47 w1 A1 c1 (lateK xs 0) fp) := by rw [lateK_zero]; exact ho
  have HF := hide hf
  have HX := hide hx
  have cap := ho.cap
  rw [hn.out] at cap
  have ca1 := cap.1; have ca2 := cap.2
  clear ho hf hx CI cap
  go_wp2
  go_loopw [9] (fun i wr => ∃ (k : Nat), k ≤ n ∧ i = .int .i64 k ∧ LO kdItem 47 wr A1 c1 (lateK xs k) fp ∧ Ext w wr) (fun i _ => n - (intOf i).toNat)
  case atStart => exact ⟨0, Nat.zero_le _, rfl, HO.out, HX.out⟩
  case round =>
    obtain ⟨k, hk, rfl, ho, hx⟩ := hrel
    clear HO HX
    by_cases hlt : k < n
    · obtain ⟨x, hxk⟩ : ∃ x, Hid (xs[k]? = some x) := get_exP xs k (by rw [hn.out]; exact hlt)
      obtain ⟨g, cs, f, rfl, own, sub, mem, glt, cell, free, put⟩ := LO.put ho k x (lateK_at xs hxk.out)
      have gw := HF.out g mem
      have OL := kdItem.own_late own (decide ((n : Int) ≤ 2 * (k : Int)))
      have q2 : wr.cell? ⟨g, k * 3 + 2, none⟩ = some (.bool x.2.2) := cell 2 _ OL.1
      have qf := free (k * 3 + 2)
      have P2 := put wr 2 (.bool (decide ((n : Int) ≤ 2 * (k : Int)))) _ (by decide) OL.2 (TchF.refl _ _)
      have e2 : (x.1, x.2.1, decide ((n : Int) ≤ 2 * (k : Int))) = lateD n k x := rfl
      rw [e2, LS.out k x hxk.out] at P2
      have YX : Hid (Ext w (wr.setCell ⟨g, k * kdItem.size + 2, none⟩ (.bool (decide ((n : Int) ≤ 2 * (k : Int)))))) := Below.setCell hx (by simpa using gw) _
      have P2' : Hid (LO kdItem 47 (wr.setCell ⟨g, k * 3 + 2, none⟩ (.bool (decide ((n : Int) ≤ 2 * (k : Int))))) (some ⟨g, 0, none⟩) c1 (lateK xs (k + 1)) fp) := P2
      have YX' : Hid (Ext w (wr.setCell ⟨g, k * 3 + 2, none⟩ (.bool (decide ((n : Int) ≤ 2 * (k : Int)))))) := YX.out
      clear ho hx own sub cell free put OL P2 e2 YX
      have i1 : (k : Int) < n := by omega
      obtain ⟨T, hT⟩ : ∃ T, Hid (decide ((n : Int) ≤ 2 * (k : Int)) = T) := ⟨_, rfl⟩
      rw [hT.out] at P2' YX'
      cases T
      · have i2 : ¬ (n : Int) ≤ 2 * (k : Int) := by simpa using hT.out
        clear hT
        go_wp2
        generalize wr.setCell ⟨g, k * 3 + 2, none⟩ (.bool false) = w6 at *
        go_roundw
        case rel => exact ⟨k + 1, by omega, by go_num, P2'.out, YX'.out⟩
        case measure => simp [intOf]; omega
      · have i2 : (n : Int) ≤ 2 * (k : Int) := by simpa using hT.out
        clear hT
        go_wp2
        generalize wr.setCell ⟨g, k * 3 + 2, none⟩ (.bool true) = w6 at *
        go_roundw
        case rel => exact ⟨k + 1, by omega, by go_num, P2'.out, YX'.out⟩
        case measure => simp [intOf]; omega
    · have ek : n = k := by omega
      subst ek
      have HO := hide ho
      have HX := hide hx
      clear ho hx
      rw [LA.out] at HO
      go_wp2
      go_ret
      exact ⟨_, _, fp, rfl, HO.out, HF.out, HX.out⟩
end Go.Proofs.YtaoeomgehpdedaaGreat
