/- GZ: ZA, ZB, ZC, ZD, ZE, ZF, ZG, ZH, ZI, ZJ, ZK, ZL in one text. -/
import Derived.Test.YtegoapdbpfhkiaaGreatGY
import Derived.Test.YtegoapdbpfhkiaaGreatRW
/- Names by the rules, and counts of families, plainly. -/
namespace Go.Proofs.YtegoapdbpfhkiaaGreat
open Go.RowKit Go.Sort
set_option linter.unusedVariables false

/-- A name of an item keeps one of the rules 2, 4 and 7. -/
def nameR (d : CoD) (xs : List ItD) (r : Int) (x : ItD) (nm : List UInt8) : Bool := if r = 2 then decide (0 ≤ findF d.1 nm) else if r = 4 then jumpN d x nm else repW d xs nm
def nameI (d : CoD) (xs : List ItD) (r : Int) (x : ItD) : Bool := x.1.all (nameR d xs r x)
def namesR (d : CoD) (xs : List ItD) (r : Int) : Bool := xs.all (nameI d xs r)
theorem names2 (d : CoD) (xs : List ItD) : namesR d xs 2 = ruleB d xs 2 := rfl
theorem names4 (d : CoD) (xs : List ItD) : namesR d xs 4 = ruleB d xs 4 := rfl
theorem names7 (d : CoD) (xs : List ItD) : namesR d xs 7 = ruleB d xs 7 := rfl
/-- How many items each family has among the first k. -/
def fcL (d : CoD) (xs : List ItD) (k : Nat) : List Int := (List.range 5).map (fun f => (famCnt d (xs.take k) f : Int))
theorem fcL_len (d : CoD) (xs : List ItD) (k : Nat) : (fcL d xs k).length = 5 := by simp [fcL]
theorem fcL_zero (d : CoD) (xs : List ItD) : fcL d xs 0 = List.replicate 5 0 := by simp [fcL, famCnt]; rfl
theorem famCnt_succ (d : CoD) {xs : List ItD} {k : Nat} {x : ItD} (h : xs[k]? = some x) (f : Nat) : famCnt d (xs.take (k + 1)) f = famCnt d (xs.take k) f + if famI d x == (f : Int) then 1 else 0 := by
  unfold famCnt
  exact filter_succ (fun x => famI d x == (f : Int)) h
theorem fcL_skip {d : CoD} {xs : List ItD} {k : Nat} {x : ItD} (h : xs[k]? = some x) (hf : famI d x < 0) : fcL d xs (k + 1) = fcL d xs k := by
  unfold fcL
  refine List.map_congr_left fun f _ => ?_
  rw [famCnt_succ d h f, if_neg (by simp; omega)]
  rfl
theorem fcL_at (d : CoD) (xs : List ItD) (k f : Nat) (hf : f < 5) : (fcL d xs k).getD f 0 = famCnt d (xs.take k) f := by
  unfold fcL
  rw [List.getD_eq_getElem?_getD, List.getElem?_map, List.getElem?_range hf]
  rfl
theorem fcL_hit {d : CoD} {xs : List ItD} {k f : Nat} {x : ItD} (h : xs[k]? = some x) (hf : famI d x = f) (h5 : f < 5) : fcL d xs (k + 1) = (fcL d xs k).set f ((fcL d xs k).getD f 0 + 1) := by
  apply List.ext_getElem?
  intro i
  rw [List.getElem?_set, fcL_len, fcL_at _ _ _ _ h5]
  by_cases hi : i < 5
  · have e : ∀ k, (fcL d xs k)[i]? = some (famCnt d (xs.take k) i : Int) := fun k => by
      unfold fcL
      rw [List.getElem?_map, List.getElem?_range hi]
      rfl
    rw [e, famCnt_succ d h i]
    by_cases hx : f = i
    · subst hx
      rw [if_pos rfl, if_pos h5, if_pos (by simp [hf])]
      rfl
    · rw [if_neg hx, e, if_neg (by simp [hf]; omega)]
      rfl
  · rw [List.getElem?_eq_none (by rw [fcL_len]; omega), if_neg (by omega), List.getElem?_eq_none (by rw [fcL_len]; omega)]
theorem famCnt_le (d : CoD) (xs : List ItD) (k f : Nat) : famCnt d (xs.take k) f ≤ k := by
  unfold famCnt
  have h1 := List.length_filter_le (fun x => famI d x == (f : Int)) (xs.take k)
  rw [List.length_take] at h1
  omega
theorem fcL_bd (d : CoD) (xs : List ItD) (k f : Nat) : 0 ≤ (fcL d xs k).getD f 0 ∧ (fcL d xs k).getD f 0 ≤ k := by
  by_cases hf : f < 5
  · rw [fcL_at _ _ _ _ hf]
    have := famCnt_le d xs k f
    omega
  · rw [List.getD_eq_getElem?_getD, List.getElem?_eq_none (by rw [fcL_len]; omega)]
    simp
theorem famI_bd {d : CoD} (hd : CodeOk d) (x : ItD) : -1 ≤ famI d x ∧ famI d x ≤ 4 := by
  have := familyF_bd hd x
  unfold famI
  split <;> omega
/-- No family has more items than its limit. -/
def fitAt (d : CoD) (xs : List ItD) (f : Nat) : Bool := decide ((famCnt d xs f : Int) ≤ d.2.1.getD f 0)
theorem rule6 (d : CoD) (xs : List ItD) : ruleB d xs 6 = (List.range 5).all (fitAt d xs) := rfl
end Go.Proofs.YtegoapdbpfhkiaaGreat

/- A name by the rules (the reference). -/
namespace Go.Proofs.YtegoapdbpfhkiaaGreat
open Go.RowKit Go.Sort
set_option linter.unusedVariables false

end Go.Proofs.YtegoapdbpfhkiaaGreat

/- All names by the rules (the reference). -/
namespace Go.Proofs.YtegoapdbpfhkiaaGreat
open Go.RowKit Go.Sort
set_option linter.unusedVariables false

end Go.Proofs.YtegoapdbpfhkiaaGreat

/- Combined items have jumps alone (the program). -/
namespace Go.Proofs.YtegoapdbpfhkiaaGreat
open Go.RowKit Go.Sort
set_option linter.unusedVariables false
def jumpI (d : CoD) (x : ItD) : Bool := x.1.all (jumpN d x)

set_option maxRecDepth 100000 in
set_option maxHeartbeats 2000000 in
theorem i.combinesJumps_m (w : World) (v : Value) (d : CoD) (A : Option Addr) (c B : Nat) (xs : List ItD) (h : kC.rd w v d) (hok : kC.ok d) (hd : CodeOk d) (hi : LR kdItem w B A c xs) (hB : B ≤ w.heap.size) (h14 : xs.length ≤ 14) (h3 : ∀ x ∈ xs, x.1.length ≤ 3) :
    Calls Tryz.prog 129 #[v, .slice A xs.length c] w fun e w' => e = .returned (.bool (xs.all (jumpI d))) ∧ Ext w w' := by
  obtain ⟨Ac, cc, Al, cl, rfl, hle, _⟩ := kC.lr h
  obtain ⟨nc, NC⟩ : ∃ z, Hid (d.1.length = z) := ⟨_, rfl⟩
  obtain ⟨nl, NL⟩ : ∃ z, Hid (d.2.1.length = z) := ⟨_, rfl⟩
  obtain ⟨rr, RN⟩ : ∃ z, Hid (d.2.2.1 = z) := ⟨_, rfl⟩
  obtain ⟨b, BN⟩ : ∃ z, Hid (d.2.2.2.1 = z) := ⟨_, rfl⟩
  obtain ⟨p, PN⟩ : ∃ z, Hid (d.2.2.2.2.1 = z) := ⟨_, rfl⟩
  obtain ⟨f, FN⟩ : ∃ z, Hid (d.2.2.2.2.2 = z) := ⟨_, rfl⟩
  rw [NC.out, NL.out, RN.out, BN.out, PN.out, FN.out] at h ⊢
  have HR := hide h
  have HLE := hide hle
  have H := hide hi
  have H3 := hide h3
  have HD := hide hd
  have a1 := hi.1; have a2 := hi.2.1
  clear h hi h3 hd hle
  obtain ⟨R, hR⟩ : ∃ R, Hid (xs.all (jumpI d) = R) := ⟨_, rfl⟩
  rw [hR.out]
  obtain ⟨n, hn⟩ : ∃ n, Hid (xs.length = n) := ⟨_, rfl⟩
  have H14 := hide h14
  rw [hn.out] at h14 a1 ⊢
  obtain ⟨W0, hW0⟩ : ∃ W0, Hid (W0 = w.alloc (.cells #[.slice Ac nc cc, .slice Al nl cl, .int .i64 rr, .int .i64 b, .int .i64 p, .int .i64 f] 26)) := ⟨_, rfl⟩
  have X0 : Hid (Ext w W0) := by rw [hW0.out]; exact Ext.alloc w _
  have B0 : Hid (Blk W0 w.heap.size #[.slice Ac nc cc, .slice Al nl cl, .int .i64 rr, .int .i64 b, .int .i64 p, .int .i64 f] 26) := by rw [hW0.out]; exact Blk.new rfl _ _
  go_enter Tryz.func129, Tryz.ntmps129
  go_wp2
  rw [← hW0.out]
  clear hW0
  go_loopw [12] (fun i wr => ∃ (k : Nat), k ≤ n ∧ i = .int .i64 k ∧ (xs.take k).all (jumpI d) = true ∧ Ext W0 wr) (fun i _ => n - (intOf i).toNat)
  case atStart => exact ⟨0, Nat.zero_le _, rfl, rfl, Ext.refl _⟩
  case round =>
    obtain ⟨k, hk, rfl, hall, hx⟩ := hrel
    have HA := hide hall
    have HX := hide hx
    clear hall hx
    by_cases hlt : k < n
    · obtain ⟨x, hxk⟩ : ∃ x, Hid (xs[k]? = some x) := ⟨_, List.getElem?_eq_getElem (by rw [hn.out]; exact hlt)⟩
      have XW := hide (X0.out.trans HX.out)
      obtain ⟨bb, off, A1, c1, A2, c2, rfl, hb, q0, q1, q2, r1, r2⟩ := (H.out.ext XW.out hB).item k x hxk.out
      have k1 := H3.out x (List.mem_of_getElem? hxk.out)
      have sz := XW.out.size
      obtain ⟨W1, hW1⟩ : ∃ W1, Hid (W1 = wr.alloc (.cells #[.slice A1 x.1.length c1, .slice A2 x.2.1.length c2, .bool x.2.2] 51)) := ⟨_, rfl⟩
      have X1 : Hid (Ext W0 W1) := by rw [hW1.out]; exact HX.out.trans (Ext.alloc _ _)
      have B1 : Hid (Blk W1 wr.heap.size #[.slice A1 x.1.length c1, .slice A2 x.2.1.length c2, .bool x.2.2] 51) := by rw [hW1.out]; exact Blk.new rfl _ _
      have R1 := hide (r1.ext (show Ext wr W1 by rw [hW1.out]; exact Ext.alloc _ _) (by omega))
      have b1 := r1.1; have b2 := r1.2.1; have b3 := r2.1; have b4 := r2.2.1
      clear r1 r2
      have hKI : ∀ (y : ItD), jumpI d y = y.1.all (jumpN d y) := fun _ => rfl
      have HKI := hide (hKI x)
      clear hKI
      have JQ := hide (fun (hp : 0 < x.1.length) (nm : List UInt8) => jumpN_eq d hp nm)
      have CI : Hid (combI x = decide (1 < x.1.length)) := rfl
      obtain ⟨m, hm⟩ : ∃ m, Hid (x.1.length = m) := ⟨_, rfl⟩
      rw [hm.out] at q0 hW1 k1 b1 B1 JQ CI
      generalize x.2.1.length = m2 at *
      generalize x.2.2 = m3 at *
      go_wp2
      rw [← hW1.out]
      clear hW1 q0 q1 q2
      go_loopw [19] (fun i wr => ∃ (j : Nat), j ≤ m ∧ i = .int .i64 j ∧ (x.1.take j).all (jumpN d x) = true ∧ Ext W1 wr) (fun i _ => m - (intOf i).toNat)
      case atStart => exact ⟨0, Nat.zero_le _, rfl, rfl, Ext.refl _⟩
      case round =>
        obtain ⟨j, hj, rfl, hall, hx⟩ := hrel
        have HA2 := hide hall
        have HX2 := hide hx
        clear hall hx
        by_cases hltj : j < m
        · obtain ⟨nm, hnj⟩ : ∃ nm, Hid (x.1[j]? = some nm) := ⟨_, List.getElem?_eq_getElem (by rw [hm.out]; exact hltj)⟩
          obtain ⟨b9, off9, rfl, hb9, u0, ul⟩ := (R1.out.ext HX2.out (by have := X1.out.size; have := X0.out.size; omega)).str j nm hnj.out
          have XX := hide (X1.out.trans HX2.out)
          have cB := (B0.out.ext XX.out).cell
          have FE := hide (i.findElement_m wr _ d nm (kC.rd_ext HR.out (X0.out.trans XX.out)) hok)
          have JE := hide (JQ.out (by omega) nm)
          have FK : Hid (0 ≤ findF d.1 nm → ∃ (k : Nat) (y : ElD), findF d.1 nm = k ∧ d.1[k]? = some y) := fun h => by
            obtain ⟨k, y, e1, e2, _⟩ := findF_some h
            exact ⟨k, y, e1, e2⟩
          have FB := findF_ge d.1 nm
          obtain ⟨F, hF⟩ : ∃ F, Hid (findF d.1 nm = F) := ⟨_, rfl⟩
          rw [hF.out] at FE JE FK FB
          generalize bs nm = nb at *
          go_wp2_with fail
          refine FE.out.mono ?_
          rintro e w2 ⟨rfl, x2⟩
          have HX3 := hide (HX2.out.trans x2)
          clear x2 cB u0 FE
          have cI := (B1.out.ext HX3.out).cell
          have CB := hide (i.isCombined_any w2 (some ⟨b9, off9, none⟩) A2 m c1 m2 c2 m3 b1 b2)
          go_wp2_with fail
          refine CB.out.mono ?_
          rintro e w3 ⟨rfl, x3⟩
          have HX4 := hide (HX3.out.trans x3)
          clear x3 cI CB
          by_cases hcm : 1 < m
          · have HC : Hid (combI x = true) := by show _ = _; rw [CI.out]; simp [hcm]
            rw [HC.out, Bool.true_and] at JE
            rw [show decide (1 < m) = true from by simp [hcm]]
            clear hcm
            by_cases hneg : F < 0
            · have HN : Hid (jumpN d x nm = false) := by show _ = _; rw [JE.out]; simp [hneg]
              have HF : Hid (R = false) := by
                show _ = _
                rw [← hR.out]
                exact allL_stop hxk.out (by rw [HKI.out]; exact allL_stop hnj.out HN.out)
              clear JE FK
              go_wp2
              go_ret
              exact ⟨ret_bool HF.out.symm, X0.out.trans (X1.out.trans HX4.out)⟩
            · obtain ⟨e9, y, hk9, hy⟩ := FK.out (by omega)
              have hl := HLE.out
              obtain ⟨be, oe, rfl, hbe, g0, u1, g2, g3, xl⟩ := hl.element e9 y hy
              have kn : e9 < nc := by rw [← NC.out]; exact (List.getElem?_eq_some_iff.1 hy).1
              have n24 : nc ≤ 24 := by rw [← NC.out]; exact HD.out.n2
              have cx1 := hl.1; have cx2 := hl.2.1
              rw [NC.out] at cx1
              have XA := hide (X0.out.trans (X1.out.trans HX4.out))
              have cE := (XA.out.cell hbe).trans u1
              have cC := (B0.out.ext (X1.out.trans HX4.out)).cell
              rw [hk9, Int.toNat_natCast, getD_some hy] at JE
              clear g0 u1 g2 g3 xl hl FK hy
              subst hk9
              by_cases hz : y.2.1 = 0
              · have HN : Hid (jumpN d x nm = true) := by show _ = _; rw [JE.out]; simp [hz]
                clear JE
                rw [hz] at cE
                clear hz
                go_wp2
                go_roundw
                case rel => exact ⟨j + 1, by omega, by go_num, allL_step hnj.out HA2.out HN.out, HX4.out⟩
                case measure => simp [intOf]; omega
              · have HN : Hid (jumpN d x nm = false) := by show _ = _; rw [JE.out]; simp [hz]
                have hz2 : (y.2.1 == 0) = false := by rw [beq_eq_false_iff_ne]; exact hz
                have hz3 : (y.2.1 != 0) = true := by simp [hz]
                have HF : Hid (R = false) := by
                  show _ = _
                  rw [← hR.out]
                  exact allL_stop hxk.out (by rw [HKI.out]; exact allL_stop hnj.out HN.out)
                clear JE
                generalize y.2.1 = z at *
                go_wp2
                go_ret
                exact ⟨ret_bool HF.out.symm, X0.out.trans (X1.out.trans HX4.out)⟩
          · have HC : Hid (combI x = false) := by show _ = _; rw [CI.out]; simp [hcm]
            rw [show decide (1 < m) = false from by simp [hcm]]
            have HN : Hid (jumpN d x nm = true) := by show _ = _; rw [JE.out, HC.out]; simp
            clear hcm JE FK
            go_wp2
            go_roundw
            case rel => exact ⟨j + 1, by omega, by go_num, allL_step hnj.out HA2.out HN.out, HX4.out⟩
            case measure => simp [intOf]; omega
        · have HN : Hid (jumpI d x = true) := by show _ = _; rw [HKI.out]; exact allL_end (by rw [hm.out]; omega) HA2.out
          go_wp2
          go_roundw
          case rel => exact ⟨k + 1, by omega, by go_num, allL_step hxk.out HA.out HN.out, X1.out.trans HX2.out⟩
          case measure => simp [intOf]; omega
    · have HF : Hid (R = true) := by show _ = _; rw [← hR.out]; exact allL_end (by rw [hn.out]; omega) HA.out
      go_wp2
      go_ret
      exact ⟨ret_bool HF.out.symm, X0.out.trans HX.out⟩
end Go.Proofs.YtegoapdbpfhkiaaGreat

/- The family of an item, or -1. -/
namespace Go.Proofs.YtegoapdbpfhkiaaGreat
open Go.RowKit Go.Sort
set_option linter.unusedVariables false

set_option maxRecDepth 100000 in
set_option maxHeartbeats 2000000 in
theorem i.familyOf_c (w : World) (v : Value) (d : CoD) (vs : List Value) (x : ItD) (h : kC.rd w v d) (hok : kC.ok d) (hd : CodeOk d) (hx : kdItem.rd w w.heap.size vs x) (h1n : 1 ≤ x.1.length) :
    Calls Tryz.prog 148 #[v, kdItem.val vs] w fun e w' => e = .returned (.int .i64 (famI d x)) ∧ Ext w w' := by
  obtain ⟨Ac, cc, Al, cl, rfl, hle, _⟩ := kC.lr h
  have HR := hide h
  have HLE := hide hle
  obtain ⟨nc, NC⟩ : ∃ z, Hid (d.1.length = z) := ⟨_, rfl⟩
  obtain ⟨nl, NL⟩ : ∃ z, Hid (d.2.1.length = z) := ⟨_, rfl⟩
  obtain ⟨r, RN⟩ : ∃ z, Hid (d.2.2.1 = z) := ⟨_, rfl⟩
  obtain ⟨b, BN⟩ : ∃ z, Hid (d.2.2.2.1 = z) := ⟨_, rfl⟩
  obtain ⟨p, PN⟩ : ∃ z, Hid (d.2.2.2.2.1 = z) := ⟨_, rfl⟩
  obtain ⟨f, FN⟩ : ∃ z, Hid (d.2.2.2.2.2 = z) := ⟨_, rfl⟩
  rw [NC.out, NL.out, RN.out, BN.out, PN.out, FN.out] at HR ⊢
  clear hle
  obtain ⟨A1, c1, A2, c2, rfl, h1, h2⟩ := kdItem.open_ hx
  rw [kdItem.val3]
  have H1 := hide h1
  have a1 := h1.1; have a2 := h1.2.1; have a3 := h2.1; have a4 := h2.2.1
  have HD := hide hd
  clear h hx h1 h2 hd
  obtain ⟨m, hm⟩ : ∃ m, Hid (x.1.length = m) := ⟨_, rfl⟩
  obtain ⟨m2, hm2⟩ : ∃ m, Hid (x.2.1.length = m) := ⟨_, rfl⟩
  obtain ⟨q, hq⟩ : ∃ q, Hid (x.2.2 = q) := ⟨_, rfl⟩
  rw [hm.out] at a1 h1n ⊢
  rw [hm2.out] at a3 ⊢
  rw [hq.out]
  obtain ⟨W0, hW0⟩ : ∃ W0, Hid (W0 = (w.alloc (.cells #[.slice Ac nc cc, .slice Al nl cl, .int .i64 r, .int .i64 b, .int .i64 p, .int .i64 f] 26)).alloc (.cells #[.slice A1 m c1, .slice A2 m2 c2, .bool q] 51)) := ⟨_, rfl⟩
  have X0 : Hid (Ext w W0) := by rw [hW0.out]; exact (Ext.alloc w _).trans (Ext.alloc _ _)
  have B0 : Hid (Blk W0 w.heap.size #[.slice Ac nc cc, .slice Al nl cl, .int .i64 r, .int .i64 b, .int .i64 p, .int .i64 f] 26) := by rw [hW0.out]; exact (Blk.new rfl _ _).alloc _
  have B1 : Hid (Blk W0 (w.heap.size + 1) #[.slice A1 m c1, .slice A2 m2 c2, .bool q] 51) := by rw [hW0.out]; exact Blk.new (by simp) _ _
  have zW := X0.out.size
  obtain ⟨nm, hnm⟩ : ∃ nm, Hid (x.1[0]? = some nm) := get_ex x.1 0 (by rw [hm.out]; omega)
  obtain ⟨bn, on, rfl, hbn, u0, -⟩ := H1.out.str 0 nm hnm.out
  have FA : Hid (famI d x = if findF d.1 nm < 0 then -1 else (d.1.getD (findF d.1 nm).toNat noEl).2.1) := by show _ = _; unfold famI familyF; rw [getD_some hnm.out]
  have FK : Hid (0 ≤ findF d.1 nm → ∃ (k : Nat) (y : ElD), findF d.1 nm = k ∧ d.1[k]? = some y) := fun h => by
    obtain ⟨k, y, e1, e2, _⟩ := findF_some h
    exact ⟨k, y, e1, e2⟩
  have FB := findF_ge d.1 nm
  have FE := hide (fun dd os => ext_regrown (i.findElement_m (grow (redrawn W0 dd) os) _ d nm (kC.rd_ext HR.out (X0.out.trans (ext_re W0 dd os))) hok))
  obtain ⟨F, hF⟩ : ∃ F, Hid (findF d.1 nm = F) := ⟨_, rfl⟩
  rw [hF.out] at FE FA FK FB
  obtain ⟨R, hR⟩ : ∃ R, Hid (famI d x = R) := ⟨_, rfl⟩
  rw [hR.out] at FA ⊢
  simp only [Nat.add_zero] at u0
  have U0 : W0.cell? ⟨bn, on, none⟩ = some (.string (bs nm)) := (X0.out.cell hbn).trans u0
  have c0_ := fun dd os => (B0.out.ext (ext_re W0 dd os)).cell
  have c1_ := fun dd os => (B1.out.ext (ext_re W0 dd os)).cell
  have u0_ := fun dd os => cell_regrown U0 dd os
  have p1 : 0 < m := by omega
  clear u0 U0
  generalize bs nm = nb at *
  go_enter Tryz.func148, Tryz.ntmps148
  go_wp2
  rw [← hW0.out]
  clear hW0
  refine wp_region_quiet_below (by kernel_rfl) (by kernel_rfl) ?_
  repeat (go_big_quiet_step ((go_at_call 111; exact FE.out _ _)))
  refine wpQuiet_nil ?_
  intro _ hw'
  obtain ⟨⟨dq, osq⟩, hw''⟩ := hw'
  subst hw''
  have Y2 := hide (ext_re W0 dq osq)
  have B2 := hide (B0.out.ext Y2.out)
  clear c0_ c1_ u0_
  generalize grow (redrawn W0 dq) osq = w2 at *
  by_cases hneg : F < 0
  · have HF : Hid (R = -1) := by show _ = _; rw [FA.out, if_pos hneg]
    clear FA FK
    go_wp2
    go_ret
    exact ⟨ret_int HF.out.symm, X0.out.trans Y2.out⟩
  · obtain ⟨k, y, hk, hy⟩ := FK.out (by omega)
    rw [hk, if_neg (by omega), Int.toNat_natCast, getD_some hy] at FA
    have hl := HLE.out
    obtain ⟨be, oe, rfl, hbe, g0, u1, g2, g3, xl⟩ := hl.element k y hy
    have kn : k < nc := by rw [← NC.out]; exact (List.getElem?_eq_some_iff.1 hy).1
    have n24 : nc ≤ 24 := by rw [← NC.out]; exact HD.out.n2
    have cx1 := hl.1; have cx2 := hl.2.1
    rw [NC.out] at cx1
    have cE := ((X0.out.trans Y2.out).cell hbe).trans u1
    have cB := B2.out.cell
    clear g0 u1 g2 g3 xl hl FK hy
    subst hk
    generalize y.2.1 = z at *
    go_wp2
    go_ret
    exact ⟨ret_int FA.out.symm, X0.out.trans Y2.out⟩

end Go.Proofs.YtegoapdbpfhkiaaGreat

/- How many items each family has. -/
namespace Go.Proofs.YtegoapdbpfhkiaaGreat
open Go.RowKit Go.Sort
set_option linter.unusedVariables false

set_option maxRecDepth 100000 in
set_option maxHeartbeats 2000000 in
theorem i.familyCounts_m (w : World) (v : Value) (d : CoD) (A : Option Addr) (c B : Nat) (xs : List ItD) (h : kC.rd w v d) (hok : kC.ok d) (hd : CodeOk d) (hi : LR kdItem w B A c xs) (hB : B ≤ w.heap.size) (h14 : xs.length ≤ 14) (h3 : ∀ x ∈ xs, 1 ≤ x.1.length ∧ x.1.length ≤ 3) :
    Calls Tryz.prog 143 #[v, .slice A xs.length c] w fun e w' => ∃ A' c', e = .returned (.slice A' 5 c') ∧ OwnI 3 w' w.heap.size A' 5 c' (fcL d xs xs.length) ∧ Ext w w' := by
  obtain ⟨Ac, nc, cc, Al, nl, cl, r, b, p, f, rfl⟩ := kC.shape h
  obtain ⟨i0, hi0, hz0, hz1, hz2⟩ := info_parts info_int
  have HZ := hide hz2
  have HI0 := hide hi0
  have HZ0 := hide hz0
  have HZ1 := hide hz1
  clear hz2 hi0 hz0 hz1
  have HR := hide h
  have H := hide hi
  have H3 := hide h3
  have HD := hide hd
  have a1 := hi.1; have a2 := hi.2.1
  clear h hi h3 hd
  obtain ⟨n, hn⟩ : ∃ n, Hid (xs.length = n) := ⟨_, rfl⟩
  rw [hn.out] at h14 a1 ⊢
  obtain ⟨W0, hW0⟩ : ∃ W0, Hid (W0 = w.alloc (.cells #[.slice Ac nc cc, .slice Al nl cl, .int .i64 r, .int .i64 b, .int .i64 p, .int .i64 f] 26)) := ⟨_, rfl⟩
  have X0 : Hid (Ext w W0) := by rw [hW0.out]; exact Ext.alloc w _
  have B0 : Hid (Blk W0 w.heap.size #[.slice Ac nc cc, .slice Al nl cl, .int .i64 r, .int .i64 b, .int .i64 p, .int .i64 f] 26) := by rw [hW0.out]; exact Blk.new rfl _ _
  have c0 := B0.out.cell
  rw [hW0.out] at c0
  go_enter Tryz.func143, Tryz.ntmps143
  go_wp2_with (at_make; rw [← hW0.out]; refine wpList_make_full _ rfl _ _ _ rfl W0.heap.size 3 i0 _ 1 Tryz.underlying24 HI0.out HZ0.out HZ1.out _ _ _ _ 5 rfl rfl rfl rfl ?c1 ?c2 ?c3 ?_)
  case c1 => rw [HZ.out]; omega
  case c2 => unfold maxLen; omega
  case c3 => exact Nat.le_refl _
  intro w2 hown hgrow
  clear hW0 c0
  rw [made_zeroR] at hown
  have hb1 : Ext W0 w2 := (Ext.refl W0).grown hgrow (Nat.le_refl _) (by simp)
  have O1 : Hid (OwnI 3 w2 W0.heap.size (some ⟨W0.heap.size, 0, none⟩) 5 5 (fcL d xs 0)) := by rw [fcL_zero]; exact hown
  obtain ⟨g, hg⟩ : ∃ g, Hid (g = W0.heap.size) := ⟨_, rfl⟩
  rw [← hg.out] at O1
  rw [← hg.out]
  have gl : W0.heap.size ≤ g := by rw [hg.out]; exact Nat.le_refl _
  have z0 := X0.out.size
  have gw : g < w2.heap.size := by
    rcases OwnI.form O1.out with ⟨h, _⟩ | ⟨g', h, _, h2, _⟩
    · cases h
    · injection h with h; injection h with h; omega
  have X2 := hide hb1
  have B2 := hide (B0.out.ext hb1)
  clear hown hgrow hb1
  have cB := B2.out.cell
  go_wp2
  clear cB
  go_loopw [12] (fun i wr => ∃ (k : Nat), k ≤ n ∧ i = .int .i64 k ∧ OwnI 3 wr g (some ⟨g, 0, none⟩) 5 5 (fcL d xs k) ∧ Ext W0 wr) (fun i _ => n - (intOf i).toNat)
  case atStart => exact ⟨0, Nat.zero_le _, rfl, O1.out, X2.out⟩
  case round =>
    obtain ⟨k, hk, rfl, ho, hx⟩ := hrel
    clear O1 X2
    have OK := hide ho
    have HX := hide hx
    clear ho hx
    by_cases hlt : k < n
    · obtain ⟨x, hxk⟩ : ∃ x, Hid (xs[k]? = some x) := get_exP xs k (by rw [hn.out]; exact hlt)
      have XW := hide (X0.out.trans HX.out)
      obtain ⟨bb, off, A1, c1, A2, c2, rfl, hb, q0, q1, q2, r1, r2⟩ := (H.out.ext XW.out hB).item k x hxk.out
      have k1 := H3.out x (List.mem_of_getElem? hxk.out)
      have sz := XW.out.size
      obtain ⟨W1, hW1⟩ : ∃ W1, Hid (W1 = wr.alloc (.cells #[.slice A1 x.1.length c1, .slice A2 x.2.1.length c2, .bool x.2.2] 51)) := ⟨_, rfl⟩
      have Y1 : Hid (Ext wr W1) := by rw [hW1.out]; exact Ext.alloc _ _
      have X1 : Hid (Ext W0 W1) := HX.out.trans Y1.out
      have B1 : Hid (Blk W1 wr.heap.size #[.slice A1 x.1.length c1, .slice A2 x.2.1.length c2, .bool x.2.2] 51) := by rw [hW1.out]; exact Blk.new rfl _ _
      have MK := hide (kdItem.rd_more (kdItem.mk_ (r1.ext Y1.out (by omega)) (r2.ext Y1.out (by omega))) (Nat.le_trans hB (X0.out.trans X1.out).size))
      have b1 := r1.1; have b2 := r1.2.1; have b3 := r2.1; have b4 := r2.2.1
      have FA := hide (i.familyOf_c W1 _ d _ x (kC.rd_ext HR.out (X0.out.trans X1.out)) hok HD.out MK.out k1.1)
      rw [kdItem.val3] at FA
      have fb := famI_bd HD.out x
      have SK : Hid (famI d x < 0 → fcL d xs (k + 1) = fcL d xs k) := fun h => fcL_skip hxk.out h
      have HT : Hid (∀ fa : Nat, famI d x = fa → fa < 5 → fcL d xs (k + 1) = (fcL d xs k).set fa ((fcL d xs k).getD fa 0 + 1)) := fun fa h1 h2 => fcL_hit hxk.out h1 h2
      have CB := hide (fun fa => fcL_bd d xs k fa)
      obtain ⟨F, hF⟩ : ∃ F, Hid (famI d x = F) := ⟨_, rfl⟩
      rw [hF.out] at FA fb SK HT
      clear r1 r2 MK
      generalize x.1.length = m1 at *
      generalize x.2.1.length = m2 at *
      generalize x.2.2 = m3 at *
      have cI := B1.out.cell
      have cC := (B0.out.ext X1.out).cell
      rw [hW1.out] at cI cC
      go_wp2_with fail
      rw [← hW1.out]
      clear hW1 cI cC q0 q1 q2
      refine FA.out.mono ?_
      rintro e w5 ⟨rfl, x5⟩
      have X5 := hide (X1.out.trans x5)
      have O5 := hide (OwnI.below OK.out (Y1.out.trans x5) (Nat.le_refl _))
      clear x5 FA
      by_cases hneg : F < 0
      · have SE := hide (SK.out hneg)
        clear SK HT
        go_wp2
        go_roundw
        case rel => exact ⟨k + 1, by omega, by go_num, by rw [SE.out]; exact O5.out, X5.out⟩
        case measure => simp [intOf]; omega
      · obtain ⟨fa, hfa⟩ : ∃ fa : Nat, F = (fa : Int) := ⟨F.toNat, by omega⟩
        have f5 : fa < 5 := by omega
        have SS := hide (HT.out fa hfa f5)
        have sb := CB.out fa
        subst hfa
        have cO := O5.out.cell fa f5
        have fO := O5.out.free fa
        obtain ⟨S, hS⟩ : ∃ S, Hid ((fcL d xs k).getD fa 0 = S) := ⟨_, rfl⟩
        rw [hS.out] at cO SS sb
        have YS : Hid (Ext W0 (w5.setCell ⟨g, fa, none⟩ (.int .i64 (S + 1)))) := Below.setCell X5.out (by simpa using gl) _
        have O6 : Hid (OwnI 3 (w5.setCell ⟨g, fa, none⟩ (.int .i64 (S + 1))) g (some ⟨g, 0, none⟩) 5 5 (fcL d xs (k + 1))) := by
          rw [SS.out]
          exact O5.out.set fa _
        clear SK HT CB
        go_wp2
        clear cO fO
        generalize w5.setCell ⟨g, fa, none⟩ (.int .i64 (S + 1)) = w6 at *
        go_roundw
        case rel => exact ⟨k + 1, by omega, by go_num, O6.out, YS.out⟩
        case measure => simp [intOf]; omega
    · have ek : n = k := by omega
      subst ek
      go_wp2
      go_ret
      exact ⟨_, _, rfl, OwnI.lower OK.out (by omega), X0.out.trans HX.out⟩

end Go.Proofs.YtegoapdbpfhkiaaGreat

/- Items without marks, and families within their limits (the program). -/
namespace Go.Proofs.YtegoapdbpfhkiaaGreat
open Go.RowKit Go.Sort
set_option linter.unusedVariables false

set_option maxHeartbeats 1000000 in
theorem closUnm (vs : List Value) (x : ItD) (w : World) (hx : kdItem.rd w w.heap.size vs x) (hn : x.2.1.length ≤ 1048576) :
    Calls Tryz.prog 128 #[kdItem.val vs] w fun e w' => e = .returned (.bool (!unmP x)) ∧ Ext w w' := by
  obtain ⟨A1, c1, A2, c2, rfl, h1, h2⟩ := kdItem.open_ hx
  rw [kdItem.val3]
  have X0 := hide (Ext.alloc w (.cells #[.slice A1 x.1.length c1, .slice A2 x.2.1.length c2, .bool x.2.2] 51))
  have AW := hide (i.allWithin_any A2 x.2.1.length c2 w.heap.size x.2.1 0 0 _ (h2.sl.ext X0.out (Nat.le_refl _)) hn)
  have e1 : x.2.1.all (inB 0 0) = unmP x := rfl
  rw [e1] at AW
  have a1 := h1.1; have a2 := h1.2.1; have a3 := h2.1; have a4 := h2.2.1
  clear e1 hx h1 h2
  generalize unmP x = U at *
  generalize x.1.length = m1 at *
  generalize x.2.1.length = m2 at *
  generalize x.2.2 = m3 at *
  go_enter Tryz.func128, Tryz.ntmps128
  go_wp2_with fail
  refine AW.out.mono ?_
  rintro e w1 ⟨rfl, rfl⟩
  cases U
  · go_wp2
    go_ret
    exact ⟨rfl, X0.out⟩
  · go_wp2
    go_ret
    exact ⟨rfl, X0.out⟩

set_option maxRecDepth 100000 in
set_option maxHeartbeats 1000000 in
theorem indexUnm (w : World) (A : Option Addr) (c B : Nat) (xs : List ItD) (h : LR kdItem w B A c xs) (hB : B ≤ w.heap.size) (hwt : wtL kdItem xs ≤ 1048576) :
    Calls Tryz.prog 141 #[.slice A xs.length c, .func (.func 128) #[] #[]] w fun e w' => (∃ q, e = .returned (.int .i64 q) ∧ decide (0 ≤ q) = !(xs.all unmP)) ∧ Ext w w' := by
  have H := hide h
  have HW := hide hwt
  have hlen := wtL_len kdItem xs
  have a1 := h.1; have a2 := h.2.1
  obtain ⟨R, hR⟩ : ∃ R, Hid (xs.all unmP = R) := ⟨_, rfl⟩
  rw [hR.out]
  obtain ⟨n, hn⟩ : ∃ n, Hid (xs.length = n) := ⟨_, rfl⟩
  rw [hn.out] at hlen a1 ⊢
  have n1 : n ≤ 1048576 := by omega
  clear h hwt hlen
  have HEND : Hid (xs.all unmP = true → R = true) := fun h8 => by rw [← hR.out, h8]
  have HSTOP : Hid (xs.all unmP = false → R = false) := fun h8 => by rw [← hR.out, h8]
  clear hR
  go_enter Tryz.func141, Tryz.ntmps141
  go_wp2
  go_loopw [8] (fun i wr => ∃ (k : Nat), k ≤ n ∧ i = .int .i64 k ∧ (xs.take k).all unmP = true ∧ Ext w wr) (fun i _ => n - (intOf i).toNat)
  case atStart => exact ⟨0, Nat.zero_le _, rfl, rfl, Ext.refl _⟩
  case round =>
    obtain ⟨k, hk, rfl, hall, hx⟩ := hrel
    have HA := hide hall
    have HX := hide hx
    clear hall hx
    by_cases hlt : k < n
    · obtain ⟨x, hxk⟩ : ∃ x, Hid (xs[k]? = some x) := get_exP xs k (by rw [hn.out]; exact hlt)
      obtain ⟨b, off, A1, c1, A2, c2, rfl, hb, q0, q1, q2, r1, r2⟩ := (H.out.ext HX.out hB).item k x hxk.out
      have hsz := HX.out.size
      have hx2 := (kdItem.wt_le (Nat.le_trans (wtL_at kdItem xs k x hxk.out) HW.out)).2.1
      have CU := hide (closUnm _ x wr (kdItem.rd_more (kdItem.mk_ r1 r2) (by omega)) hx2)
      rw [kdItem.val3] at CU
      clear r1 r2 hx2
      obtain ⟨U, hU⟩ : ∃ U, Hid (unmP x = U) := ⟨_, rfl⟩
      rw [hU.out] at CU
      generalize x.1.length = m1 at *
      generalize x.2.1.length = m2 at *
      generalize x.2.2 = m3 at *
      go_wp2_with fail
      refine CU.out.mono ?_
      rintro e w2 ⟨rfl, x2⟩
      have HX2 := hide (HX.out.trans x2)
      clear x2 CU q0 q1 q2
      cases U
      · have HF := hide (HSTOP.out (allL_stop hxk.out hU.out))
        go_wp2
        go_ret
        exact ⟨⟨k, rfl, by rw [HF.out]; simp⟩, HX2.out⟩
      · go_wp2
        go_roundw
        case rel => exact ⟨k + 1, by omega, by go_num, allL_step hxk.out HA.out hU.out, HX2.out⟩
        case measure => simp [intOf]; omega
    · have HE := hide (HEND.out (allL_end (by rw [hn.out]; omega) HA.out))
      go_wp2
      go_ret
      exact ⟨⟨-1, rfl, by rw [HE.out]; simp⟩, HX.out⟩
theorem containsUnm (w : World) (A : Option Addr) (c B : Nat) (xs : List ItD) (h : LR kdItem w B A c xs) (hB : B ≤ w.heap.size) (hwt : wtL kdItem xs ≤ 1048576) :
    Calls Tryz.prog 127 #[.slice A xs.length c, .func (.func 128) #[] #[]] w fun e w' => e = .returned (.bool (!(xs.all unmP))) ∧ Ext w w' := by
  have IU := hide (indexUnm w A c B xs h hB hwt)
  generalize xs.length = n at *
  go_enter Tryz.func127, Tryz.ntmps127
  go_wp2_with fail
  refine IU.out.mono ?_
  rintro e w' ⟨⟨q, rfl, hq⟩, hx⟩
  have HQ := hide hq
  have HX := hide hx
  clear hq hx
  go_wp2
  go_ret
  exact ⟨ret_bool HQ.out, HX.out⟩

set_option maxRecDepth 100000 in
set_option maxHeartbeats 2000000 in
theorem i.fitsLimits_m (w : World) (v : Value) (d : CoD) (A : Option Addr) (c B : Nat) (xs : List ItD) (h : kC.rd w v d) (hok : kC.ok d) (hd : CodeOk d) (hi : LR kdItem w B A c xs) (hB : B ≤ w.heap.size) (h14 : xs.length ≤ 14) (h3 : ∀ x ∈ xs, 1 ≤ x.1.length ∧ x.1.length ≤ 3) :
    Calls Tryz.prog 131 #[v, .slice A xs.length c] w fun e w' => e = .returned (.bool (ruleB d xs 6)) ∧ Ext w w' := by
  obtain ⟨Ac, cc, Al, cl, rfl, _, hll⟩ := kC.lr h
  obtain ⟨nc, NC⟩ : ∃ z, Hid (d.1.length = z) := ⟨_, rfl⟩
  have nl5 := hd.lim
  rw [nl5] at h ⊢
  obtain ⟨r, RN⟩ : ∃ z, Hid (d.2.2.1 = z) := ⟨_, rfl⟩
  obtain ⟨b, BN⟩ : ∃ z, Hid (d.2.2.2.1 = z) := ⟨_, rfl⟩
  obtain ⟨p, PN⟩ : ∃ z, Hid (d.2.2.2.2.1 = z) := ⟨_, rfl⟩
  obtain ⟨f, FN⟩ : ∃ z, Hid (d.2.2.2.2.2 = z) := ⟨_, rfl⟩
  rw [NC.out, RN.out, BN.out, PN.out, FN.out] at h ⊢
  have a1 := hi.1; have a2 := hi.2.1
  have b1 := hll.1; have b2 := hll.2.1
  have HLL := hide hll
  have N5 := hide nl5
  have HD := hide hd
  obtain ⟨W0, hW0⟩ : ∃ W0, Hid (W0 = w.alloc (.cells #[.slice Ac nc cc, .slice Al 5 cl, .int .i64 r, .int .i64 b, .int .i64 p, .int .i64 f] 26)) := ⟨_, rfl⟩
  have X0 : Hid (Ext w W0) := by rw [hW0.out]; exact Ext.alloc w _
  have B0 : Hid (Blk W0 w.heap.size #[.slice Ac nc cc, .slice Al 5 cl, .int .i64 r, .int .i64 b, .int .i64 p, .int .i64 f] 26) := by rw [hW0.out]; exact Blk.new rfl _ _
  have FC := hide (i.familyCounts_m W0 _ d A c B xs (kC.rd_ext h X0.out) hok hd (hi.ext X0.out hB) (Nat.le_trans hB X0.out.size) h14 h3)
  have R6 := hide (rule6 d xs)
  have CB := hide (fun k => fcL_bd d xs xs.length k)
  have CA : Hid (∀ k, k < 5 → fitAt d xs k = decide ((fcL d xs xs.length).getD k 0 ≤ d.2.1.getD k 0)) := fun k hk => by
    unfold fitAt
    rw [fcL_at _ _ _ _ hk, List.take_length]
  clear h hi h3 hd hll nl5
  obtain ⟨R, hR⟩ : ∃ R, Hid (ruleB d xs 6 = R) := ⟨_, rfl⟩
  rw [hR.out] at R6 ⊢
  obtain ⟨n, hn⟩ : ∃ n, Hid (xs.length = n) := ⟨_, rfl⟩
  rw [hn.out] at h14 a1 FC CB CA ⊢
  have RA := hide (fun k (hk : k < 5) => (List.getElem?_range hk : (List.range 5)[k]? = some k))
  go_enter Tryz.func131, Tryz.ntmps131
  go_wp2_with fail
  rw [← hW0.out]
  clear hW0
  refine FC.out.mono ?_
  rintro e w1 ⟨A5, c5, rfl, o5, x5⟩
  have O5 := hide o5
  have X5 := hide x5
  have oc1 := o5.capn; have oc2 := o5.capm
  clear o5 x5 FC
  go_wp2
  go_loopw [11] (fun i wr => ∃ (k : Nat), k ≤ 5 ∧ i = .int .i64 k ∧ ((List.range 5).take k).all (fitAt d xs) = true ∧ Ext w1 wr) (fun i _ => 5 - (intOf i).toNat)
  case atStart => exact ⟨0, Nat.zero_le _, rfl, rfl, Ext.refl _⟩
  case round =>
    obtain ⟨k, hk, rfl, hall, hx⟩ := hrel
    have HA := hide hall
    have HX := hide hx
    clear hall hx
    by_cases hlt : k < 5
    · have XA := hide (X5.out.trans HX.out)
      have OK := hide (OwnI.below O5.out HX.out (Nat.le_refl _))
      obtain ⟨g, rfl, hg1, hg2, _⟩ := OwnI.pos OK.out (by omega)
      have cO := OwnI.cell OK.out k hlt
      have cB := (B0.out.ext XA.out).cell
      obtain ⟨z, hz⟩ : ∃ z, Hid (d.2.1[k]? = some z) := get_exP d.2.1 k (by rw [N5.out]; exact hlt)
      obtain ⟨bl, ol, rfl, hbl, hcl⟩ := (HLL.out.sl.ext (X0.out.trans XA.out) (Nat.le_refl _)).cells (by rw [N5.out]; omega)
      have cL := hcl k (by rw [N5.out]; exact hlt)
      have FI := hide (CA.out k hlt)
      have cb := CB.out k
      have lb := HD.out.limb z (List.mem_of_getElem? hz.out)
      rw [getD_some hz.out] at cL
      rw [show d.2.1.getD k 0 = z from getD_some hz.out] at FI
      obtain ⟨S, hS⟩ : ∃ S, Hid ((fcL d xs n).getD k 0 = S) := ⟨_, rfl⟩
      rw [hS.out] at cO FI cb
      have i5 : (k : Int) < 5 := by omega
      clear hcl
      by_cases hle : z < S
      · have HN : Hid (fitAt d xs k = false) := by show _ = _; rw [FI.out]; simp; omega
        have HF : Hid (R = false) := by show _ = _; rw [R6.out]; exact allL_stop (RA.out k hlt) HN.out
        go_wp2
        go_ret
        exact ⟨ret_bool HF.out.symm, X0.out.trans XA.out⟩
      · have HN : Hid (fitAt d xs k = true) := by show _ = _; rw [FI.out]; simp; omega
        go_wp2
        go_roundw
        case rel => exact ⟨k + 1, by omega, by go_num, allL_step (RA.out k hlt) HA.out HN.out, HX.out⟩
        case measure => simp [intOf]; omega
    · have HF : Hid (R = true) := by show _ = _; rw [R6.out]; exact allL_end (by simp; omega) HA.out
      go_wp2
      go_ret
      exact ⟨ret_bool HF.out.symm, X0.out.trans (X5.out.trans HX.out)⟩
end Go.Proofs.YtegoapdbpfhkiaaGreat

/- A rule holds (the program). -/
namespace Go.Proofs.YtegoapdbpfhkiaaGreat
open Go.RowKit Go.Sort
set_option linter.unusedVariables false

theorem i.isLateAt_any (k n : Int) (w : World) (h0 : 0 ≤ k) (h1 : k ≤ 1048576) (h2 : 0 ≤ n) (h3 : n ≤ 1048576) : Calls Tryz.prog 57 #[.int .i64 k, .int .i64 n] w fun e w' => e = .returned (.bool (decide (n ≤ 2 * k))) ∧ w = w' := by
  go_enter Tryz.func57, Tryz.ntmps57
  go_wp2
  go_ret
  exact ⟨rfl, rfl⟩

/-- What the rules ask of a list. -/
structure PgOk (d : CoD) (xs : List ItD) : Prop where
  cd : CodeOk d
  n14 : xs.length ≤ 14
  n3 : ∀ x ∈ xs, 1 ≤ x.1.length ∧ x.1.length ≤ 3
  wt : wtL kdItem xs ≤ 1048576
theorem PgOk.le3 {d : CoD} {xs : List ItD} (h : PgOk d xs) : ∀ x ∈ xs, x.1.length ≤ 3 := fun x hx => (h.n3 x hx).2
theorem PgOk.wtk {d : CoD} {xs : List ItD} (h : PgOk d xs) : ∀ (k : Nat) (x : ItD), xs[k]? = some x → kdItem.wt x ≤ 1048576 := fun k x hk => Nat.le_trans (wtL_at kdItem xs k x hk) h.wt

set_option maxRecDepth 100000 in
set_option maxHeartbeats 2000000 in
theorem i.ruleHolds_m (w : World) (v : Value) (d : CoD) (A : Option Addr) (c B : Nat) (xs : List ItD) (r : Int) (h : kC.rd w v d) (hok : kC.ok d) (hg : PgOk d xs) (hi : LR kdItem w B A c xs) (hB : B ≤ w.heap.size) (hr1 : 1 ≤ r) (hr8 : r ≤ 8) :
    Calls Tryz.prog 110 #[v, .slice A xs.length c, .int .i64 r] w fun e w' => e = .returned (.bool (ruleB d xs r)) ∧ Ext w w' := by
  obtain ⟨Ac, nc, cc, Al, nl, cl, rr, b, p, f, rfl⟩ := kC.shape h
  have a1 := hi.1; have a2 := hi.2.1
  have h14 := hg.n14
  obtain ⟨W0, hW0⟩ : ∃ W0, Hid (W0 = w.alloc (.cells #[.slice Ac nc cc, .slice Al nl cl, .int .i64 rr, .int .i64 b, .int .i64 p, .int .i64 f] 26)) := ⟨_, rfl⟩
  have X0 : Hid (Ext w W0) := by rw [hW0.out]; exact Ext.alloc w _
  have HR0 := kC.rd_ext h X0.out
  have HI0 := hi.ext X0.out hB
  have HB0 := Nat.le_trans hB X0.out.size
  have C2 := hide (i.isKnown_m W0 _ d A c B xs HR0 hok HI0 HB0 (by omega) hg.wtk)
  have C3 := hide (containsUnm W0 A c B xs HI0 HB0 hg.wt)
  have C4 := hide (i.combinesJumps_m W0 _ d A c B xs HR0 hok hg.cd HI0 HB0 h14 hg.le3)
  have C5 := hide (i.combinesFew_m W0 A c B xs HI0 HB0 h14 hg.le3)
  have C6 := hide (i.fitsLimits_m W0 _ d A c B xs HR0 hok hg.cd HI0 HB0 h14 hg.n3)
  have C7 := hide (i.repeatsWell_m W0 _ d A c B xs HR0 hok HI0 HB0 h14 hg.le3)
  have H := hide hi
  have E1 : Hid (ruleB d xs 1 = decide (0 < (xs.length : Int))) := rfl
  have E2 : Hid (ruleB d xs 2 = knownB d.1 xs) := rfl
  have E3 : Hid (ruleB d xs 3 = xs.all unmP) := rfl
  have E4 : Hid (ruleB d xs 4 = xs.all (jumpI d)) := rfl
  have E5 : Hid (ruleB d xs 5 = (decide ((twoN xs : Int) ≤ 3) && decide ((threeN xs : Int) ≤ 1))) := rfl
  have E7 : Hid (ruleB d xs 7 = xs.all (repI d xs)) := rfl
  have E8 : Hid (ruleB d xs 8 = (List.range xs.length).all (lateAt xs)) := rfl
  clear h hi hg HR0 HI0 HB0
  obtain ⟨n, hn⟩ : ∃ n, Hid (xs.length = n) := ⟨_, rfl⟩
  rw [hn.out] at a1 h14 C2 C3 C4 C5 C6 C7 E1 E8 ⊢
  have hc : r = 1 ∨ r = 2 ∨ r = 3 ∨ r = 4 ∨ r = 5 ∨ r = 6 ∨ r = 7 ∨ r = 8 := by omega
  clear hr1 hr8
  rcases hc with rfl | rfl | rfl | rfl | rfl | rfl | rfl | rfl
  · rw [E1.out]
    clear C2 C3 C4 C5 C6 C7 E1 E2 E3 E4 E5 E7 E8
    by_cases h0 : 0 < n
    · rw [show decide (0 < (n : Int)) = true from by simp; omega]
      go_enter Tryz.func110, Tryz.ntmps110
      go_wp2
      rw [← hW0.out]
      go_ret
      exact ⟨rfl, X0.out⟩
    · have h1 : ¬ 0 < (n : Int) := by omega
      rw [show decide (0 < (n : Int)) = false from by simp; omega]
      go_enter Tryz.func110, Tryz.ntmps110
      go_wp2
      rw [← hW0.out]
      go_ret
      exact ⟨rfl, X0.out⟩
  · rw [E2.out]
    clear C3 C4 C5 C6 C7 E1 E2 E3 E4 E5 E7 E8
    generalize knownB d.1 xs = F at *
    go_enter Tryz.func110, Tryz.ntmps110
    go_wp2_with fail
    rw [← hW0.out]
    clear hW0
    refine C2.out.mono ?_
    rintro e w1 ⟨rfl, x1⟩
    have X1 := hide (X0.out.trans x1)
    clear x1 C2
    go_wp2
    go_ret
    exact ⟨rfl, X1.out⟩
  · rw [E3.out]
    clear C2 C4 C5 C6 C7 E1 E2 E3 E4 E5 E7 E8
    generalize xs.all unmP = F at *
    go_enter Tryz.func110, Tryz.ntmps110
    go_wp2_with fail
    rw [← hW0.out]
    clear hW0
    refine C3.out.mono ?_
    rintro e w1 ⟨rfl, x1⟩
    have X1 := hide (X0.out.trans x1)
    clear x1 C3
    cases F
    · go_wp2
      go_ret
      exact ⟨rfl, X1.out⟩
    · go_wp2
      go_ret
      exact ⟨rfl, X1.out⟩
  · rw [E4.out]
    clear C2 C3 C5 C6 C7 E1 E2 E3 E4 E5 E7 E8
    generalize xs.all (jumpI d) = F at *
    go_enter Tryz.func110, Tryz.ntmps110
    go_wp2_with fail
    rw [← hW0.out]
    clear hW0
    refine C4.out.mono ?_
    rintro e w1 ⟨rfl, x1⟩
    have X1 := hide (X0.out.trans x1)
    clear x1 C4
    go_wp2
    go_ret
    exact ⟨rfl, X1.out⟩
  · rw [E5.out]
    clear C2 C3 C4 C6 C7 E1 E2 E3 E4 E5 E7 E8
    generalize (decide ((twoN xs : Int) ≤ 3) && decide ((threeN xs : Int) ≤ 1)) = F at *
    go_enter Tryz.func110, Tryz.ntmps110
    go_wp2_with fail
    rw [← hW0.out]
    clear hW0
    refine C5.out.mono ?_
    rintro e w1 ⟨rfl, x1⟩
    have X1 := hide (X0.out.trans x1)
    clear x1 C5
    go_wp2
    go_ret
    exact ⟨rfl, X1.out⟩
  · clear C2 C3 C4 C5 C7 E1 E2 E3 E4 E5 E7 E8
    generalize ruleB d xs 6 = F at *
    go_enter Tryz.func110, Tryz.ntmps110
    go_wp2_with fail
    rw [← hW0.out]
    clear hW0
    refine C6.out.mono ?_
    rintro e w1 ⟨rfl, x1⟩
    have X1 := hide (X0.out.trans x1)
    clear x1 C6
    go_wp2
    go_ret
    exact ⟨rfl, X1.out⟩
  · rw [E7.out]
    clear C2 C3 C4 C5 C6 E1 E2 E3 E4 E5 E7 E8
    generalize xs.all (repI d xs) = F at *
    go_enter Tryz.func110, Tryz.ntmps110
    go_wp2_with fail
    rw [← hW0.out]
    clear hW0
    refine C7.out.mono ?_
    rintro e w1 ⟨rfl, x1⟩
    have X1 := hide (X0.out.trans x1)
    clear x1 C7
    go_wp2
    go_ret
    exact ⟨rfl, X1.out⟩
  · clear C2 C3 C4 C5 C6 C7 E1 E2 E3 E4 E5 E7
    obtain ⟨R, hR⟩ : ∃ R, Hid (ruleB d xs 8 = R) := ⟨_, rfl⟩
    rw [hR.out] at E8 ⊢
    go_enter Tryz.func110, Tryz.ntmps110
    go_wp2
    rw [← hW0.out]
    clear hW0
    go_loopw [46] (fun i0 wr => ∃ (k : Nat), k ≤ n ∧ i0 = .int .i64 k ∧ ((List.range n).take k).all (lateAt xs) = true ∧ Ext W0 wr) (fun i0 _ => n - (intOf i0).toNat)
    case atStart => exact ⟨0, Nat.zero_le _, rfl, rfl, Ext.refl _⟩
    case round =>
      obtain ⟨k, hk, rfl, hall, hx⟩ := hrel
      have HA := hide hall
      have HX := hide hx
      clear hall hx
      by_cases hlt : k < n
      · obtain ⟨x, hxk⟩ : ∃ x, Hid (xs[k]? = some x) := get_exP xs k (by rw [hn.out]; exact hlt)
        have XA := hide (X0.out.trans HX.out)
        obtain ⟨bb, off, A1, c1, A2, c2, rfl, hbb, q0, q1, q2, r1, r2⟩ := (H.out.ext XA.out hB).item k x hxk.out
        have RK := hide (List.getElem?_range hlt)
        have LA : Hid (lateAt xs k = (x.2.2 == decide ((n : Int) ≤ 2 * (k : Int)))) := by show _ = _; unfold lateAt; rw [List.getD_eq_getElem?_getD, hxk.out, Option.getD_some, hn.out]
        obtain ⟨W1, hW1⟩ : ∃ W1, Hid (W1 = wr.alloc (.cells #[.slice A1 x.1.length c1, .slice A2 x.2.1.length c2, .bool x.2.2] 51)) := ⟨_, rfl⟩
        have XN : Hid (Ext W0 W1) := by rw [hW1.out]; exact HX.out.trans (Ext.alloc _ _)
        have B1 : Hid (Blk W1 wr.heap.size #[.slice A1 x.1.length c1, .slice A2 x.2.1.length c2, .bool x.2.2] 51) := by rw [hW1.out]; exact Blk.new rfl _ _
        clear r1 r2
        generalize x.1.length = m1 at *
        generalize x.2.1.length = m2 at *
        generalize x.2.2 = m3 at *
        have IL := hide (fun (wq : World) => i.isLateAt_any (k : Int) (n : Int) wq (by omega) (by omega) (by omega) (by omega))
        obtain ⟨T, hT⟩ : ∃ T, Hid (decide ((n : Int) ≤ 2 * (k : Int)) = T) := ⟨_, rfl⟩
        rw [hT.out] at IL LA
        go_wp2
        rw [← hW1.out]
        clear hW1 q0 q1 q2
        have cI := B1.out.cell
        go_quiet ((go_at_call 57; refine Calls.quiet_of_same ((IL.out _).mono (fun e w' h => ⟨h.1, h.2.symm⟩))))
        have XM := hide (XN.out.trans (Ext.drewN W1 nq))
        clear IL hT cI
        cases m3 <;> cases T
        · have HN : Hid (lateAt xs k = true) := by show _ = _; rw [LA.out]; rfl
          go_wp2
          go_roundw
          case rel => exact ⟨k + 1, by omega, by go_num, allL_step RK.out HA.out HN.out, by first | exact XM.out | exact XN.out⟩
          case measure => simp [intOf]; omega
        · have HF : Hid (R = false) := by show _ = _; rw [E8.out]; exact allL_stop RK.out (by rw [LA.out]; rfl)
          go_wp2
          go_ret
          exact ⟨ret_bool HF.out.symm, X0.out.trans (by first | exact XM.out | exact XN.out)⟩
        · have HF : Hid (R = false) := by show _ = _; rw [E8.out]; exact allL_stop RK.out (by rw [LA.out]; rfl)
          go_wp2
          go_ret
          exact ⟨ret_bool HF.out.symm, X0.out.trans (by first | exact XM.out | exact XN.out)⟩
        · have HN : Hid (lateAt xs k = true) := by show _ = _; rw [LA.out]; rfl
          go_wp2
          go_roundw
          case rel => exact ⟨k + 1, by omega, by go_num, allL_step RK.out HA.out HN.out, by first | exact XM.out | exact XN.out⟩
          case measure => simp [intOf]; omega
      · have HF : Hid (R = true) := by show _ = _; rw [E8.out]; exact allL_end (by rw [List.length_range]; omega) HA.out
        go_wp2
        go_ret
        exact ⟨ret_bool HF.out.symm, X0.out.trans HX.out⟩
end Go.Proofs.YtegoapdbpfhkiaaGreat

/- A rule holds (the reference). -/
namespace Go.Proofs.YtegoapdbpfhkiaaGreat
open Go.RowKit Go.Sort
set_option linter.unusedVariables false

end Go.Proofs.YtegoapdbpfhkiaaGreat

/- The broken rules; a programme. -/
namespace Go.Proofs.YtegoapdbpfhkiaaGreat
open Go.RowKit Go.Sort
set_option linter.unusedVariables false

theorem pgOk {d : CoD} {xs : List ItD} (hd : codeB d = true) (hi : itemsB xs = true) (hw : wtL kdItem xs ≤ 1048576) : PgOk d xs := by
  simp only [itemsB, Bool.and_eq_true, List.all_eq_true, decide_eq_true_eq] at hi
  exact ⟨codeB_ok hd, by omega, fun x hx => by have := itemB_ok (hi.1 x hx); omega, hw⟩
def brkF (d : CoD) (xs : List ItD) : List Int × Bool := if codeB d && itemsB xs then (brokenF d xs, true) else ([], false)
theorem brokenN_len (d : CoD) (xs : List ItD) (k : Nat) : (brokenN d xs k).length ≤ k := by
  unfold brokenN
  exact Nat.le_trans (List.length_filter_le _ _) (by simp)

set_option maxRecDepth 100000 in
set_option maxHeartbeats 4000000 in
theorem i.BrokenRules_m (w : World) (v : Value) (d : CoD) (A : Option Addr) (c B : Nat) (xs : List ItD) (h : kC.rd w v d) (hok : kC.ok d) (hi : LR kdItem w B A c xs) (hB : B ≤ w.heap.size) (hwt : wtL kdItem xs ≤ 1048576) :
    Calls Tryz.prog 84 #[v, .slice A xs.length c] w fun e w' => ∃ A' c' m, e = .returned (.tuple #[.slice A' m c', .bool (brkF d xs).2]) ∧ OwnI 3 w' w.heap.size A' m c' (brkF d xs).1 ∧ Ext w w' := by
  obtain ⟨Ac, nc, cc, Al, nl, cl, rr, b, p, f, rfl⟩ := kC.shape h
  have HR := hide h
  have H := hide hi
  have a1 := hi.1; have a2 := hi.2.1
  obtain ⟨W0, hW0⟩ : ∃ W0, Hid (W0 = w.alloc (.cells #[.slice Ac nc cc, .slice Al nl cl, .int .i64 rr, .int .i64 b, .int .i64 p, .int .i64 f] 26)) := ⟨_, rfl⟩
  have X0 : Hid (Ext w W0) := by rw [hW0.out]; exact Ext.alloc w _
  have B0 : Hid (Blk W0 w.heap.size #[.slice Ac nc cc, .slice Al nl cl, .int .i64 rr, .int .i64 b, .int .i64 p, .int .i64 f] 26) := by rw [hW0.out]; exact Blk.new rfl _ _
  have IC := hide (i.IsCode_m W0 _ d (kC.rd_ext h X0.out) hok)
  have AI := hide (fun (wq : World) (xq : Ext w wq) => i.AreItems_any wq A c B xs (hi.ext xq hB) (Nat.le_trans hB xq.size) hwt)
  have RH := hide (fun (hc : codeB d = true) (hq : itemsB xs = true) (r : Int) (h1 : 1 ≤ r) (h8 : r ≤ 8) (wq : World) (xq : Ext w wq) => i.ruleHolds_m wq _ d A c B xs r (kC.rd_ext HR.out xq) hok (pgOk hc hq hwt) (H.out.ext xq hB) (Nat.le_trans hB xq.size) h1 h8)
  have SU := hide (fun k => brokenN_succ d xs k)
  have BL := hide (fun k => brokenN_len d xs k)
  obtain ⟨F, hF⟩ : ∃ F, Hid (brkF d xs = F) := ⟨_, rfl⟩
  rw [hF.out]
  clear h hi
  obtain ⟨n, hn⟩ : ∃ n, Hid (xs.length = n) := ⟨_, rfl⟩
  rw [hn.out] at a1 AI RH ⊢
  go_enter Tryz.func84, Tryz.ntmps84
  go_wp2_with fail
  rw [← hW0.out]
  clear hW0
  refine IC.out.mono ?_
  rintro e w1 ⟨rfl, x1⟩
  have X1 := hide (X0.out.trans x1)
  have B1 := hide (B0.out.ext x1)
  clear x1 IC
  cases hc : codeB d
  · have HF : Hid (F = ([], false)) := by show _ = _; rw [← hF.out]; simp [brkF, hc]
    clear hc
    go_wp2
    go_ret2
    rw [HF.out]
    exact ⟨_, _, _, rfl, OwnI.nil, X1.out⟩
  have HC := hide hc
  clear hc
  go_wp2_with fail
  refine (AI.out w1 X1.out).mono ?_
  rintro e w2 ⟨rfl, x2⟩
  have X2 := hide (X1.out.trans x2)
  have B2 := hide (B1.out.ext x2)
  clear x2 AI
  cases hq : itemsB xs
  · have HF : Hid (F = ([], false)) := by show _ = _; rw [← hF.out]; simp [brkF, hq]
    clear hq
    go_wp2
    go_ret2
    rw [HF.out]
    exact ⟨_, _, _, rfl, OwnI.nil, X2.out⟩
  have HF : Hid (F = (brokenN d xs 8, true)) := by show _ = _; rw [← hF.out]; unfold brkF; rw [HC.out, hq]; rfl
  have RQ := hide (RH.out HC.out hq)
  clear hq HC RH hF
  have O0 : Hid (OwnI 3 (w2.alloc (.cells #[] 3)) w2.heap.size (some ⟨w2.heap.size, 0, none⟩) 0 0 (brokenN d xs 0)) := Own.empty w2 3 (Nat.le_refl _)
  have Y0 := hide (Ext.alloc w2 (.cells #[] 3))
  have z2 := X2.out.size
  go_wp2
  go_loopw [6, 7] (fun o i0 wr => ∃ (k m : Nat) (A5 : Option Addr) (c5 : Nat), k ≤ 8 ∧ i0 = .int .i64 ((k : Int) + 1) ∧ o = .slice A5 m c5 ∧ OwnI 3 wr w2.heap.size A5 m c5 (brokenN d xs k) ∧ Ext w2 wr) (fun _ i0 _ => 9 - (intOf i0).toNat)
  case atStart => exact ⟨0, 0, _, _, Nat.zero_le _, rfl, rfl, O0.out, Y0.out⟩
  case round =>
    obtain ⟨k, m, A5, c5, hk, rfl, rfl, hown, hx⟩ := hrel
    clear O0 Y0
    have HO := hide hown
    have HX := hide hx
    have oc1 := hown.capn; have oc2 := hown.capm
    have ol := hown.len
    clear hown hx
    have bl := BL.out k
    by_cases hlt : k < 8
    · have m8 : m ≤ 8 := by omega
      clear bl ol
      have XA := hide (X2.out.trans HX.out)
      have cB := (B2.out.ext HX.out).cell
      have RK := hide (RQ.out ((k : Int) + 1) (by omega) (by omega) wr XA.out)
      have SK := hide (SU.out k)
      obtain ⟨U, hU⟩ : ∃ U, Hid (ruleB d xs ((k : Int) + 1) = U) := ⟨_, rfl⟩
      rw [hU.out] at RK SK
      have i8 : (k : Int) + 1 ≤ 8 := by omega
      go_wp2_with fail
      refine RK.out.mono ?_
      rintro e w5 ⟨rfl, x5⟩
      have X5 := hide (HX.out.trans x5)
      have O5 := hide (OwnI.below HO.out x5 (Nat.le_refl _))
      clear x5 RK cB
      cases U
      · rw [if_neg (by decide)] at SK
        obtain ⟨L, hL⟩ : ∃ L, Hid (brokenN d xs k = L) := ⟨_, rfl⟩
        rw [hL.out] at O5 SK
        go_wp2_with (at_builtin; refine wpList_append_sl rfl (.tmp 26) (.tmp 28) rfl elem_int rfl rfl (lo := w2.heap.size) (Own.alloc O5.out (.cells #[.int .i64 ((k : Int) + 1)] 3)) (Sl.one w5 (.int .i64 ((k : Int) + 1)) 3) (one_int _) ?c1 ?c2 ?c3 ?_)
        case c1 => omega
        case c2 => omega
        case c3 => simp; have := X5.out.size; omega
        intro A9 c9 w9 hap
        have XE := hide (hap.ext (X5.out.trans (Ext.alloc w5 _)) (Own.fromLo O5.out))
        have HAP := hide hap
        clear hap
        go_wp2
        go_roundw
        case rel => exact ⟨k + 1, m + 1, A9, c9, by omega, by go_num, rfl, by rw [SK.out]; exact own_conv HAP.out.own (Nat.le_refl _) rfl (by simp), XE.out⟩
        case measure => simp [intOf]; omega
      · rw [if_pos rfl] at SK
        go_wp2
        go_roundw
        case rel => exact ⟨k + 1, m, A5, c5, by omega, by go_num, rfl, by rw [SK.out]; exact O5.out, X5.out⟩
        case measure => simp [intOf]; omega
    · have ek : k = 8 := by omega
      subst ek
      clear bl ol
      go_wp2
      go_ret2
      rw [HF.out]
      exact ⟨_, _, _, rfl, OwnI.lower HO.out (by omega), X2.out.trans HX.out⟩

end Go.Proofs.YtegoapdbpfhkiaaGreat

/- A list is a programme. -/
namespace Go.Proofs.YtegoapdbpfhkiaaGreat
open Go.RowKit Go.Sort
set_option linter.unusedVariables false

theorem progB_no {d : CoD} {xs : List ItD} (h : (codeB d && itemsB xs) = false) : progB d xs = false := by unfold progB; rw [h]; rfl
theorem progB_yes {d : CoD} {xs : List ItD} (h : (codeB d && itemsB xs) = true) : progB d xs = decide (((brokenF d xs).length : Int) = 0) := by unfold progB; rw [h]; rfl

set_option maxRecDepth 100000 in
set_option maxHeartbeats 2000000 in
theorem i.isProgramme_m (w : World) (v : Value) (d : CoD) (A : Option Addr) (c B : Nat) (xs : List ItD) (h : kC.rd w v d) (hok : kC.ok d) (hi : LR kdItem w B A c xs) (hB : B ≤ w.heap.size) (hwt : wtL kdItem xs ≤ 1048576) :
    Calls Tryz.prog 48 #[v, .slice A xs.length c] w fun e w' => e = .returned (.bool (progB d xs)) ∧ Ext w w' := by
  obtain ⟨Ac, nc, cc, Al, nl, cl, rr, b, p, f, rfl⟩ := kC.shape h
  have a1 := hi.1; have a2 := hi.2.1
  obtain ⟨W0, hW0⟩ : ∃ W0, Hid (W0 = w.alloc (.cells #[.slice Ac nc cc, .slice Al nl cl, .int .i64 rr, .int .i64 b, .int .i64 p, .int .i64 f] 26)) := ⟨_, rfl⟩
  have X0 : Hid (Ext w W0) := by rw [hW0.out]; exact Ext.alloc w _
  have BR := hide (i.BrokenRules_m W0 _ d A c B xs (kC.rd_ext h X0.out) hok (hi.ext X0.out hB) (Nat.le_trans hB X0.out.size) hwt)
  have NO := hide (progB_no (d := d) (xs := xs))
  have YS := hide (progB_yes (d := d) (xs := xs))
  have E1 : Hid ((codeB d && itemsB xs) = true → brkF d xs = (brokenF d xs, true)) := fun h => by unfold brkF; rw [if_pos h]
  have E2 : Hid ((codeB d && itemsB xs) = false → brkF d xs = ([], false)) := fun h => by unfold brkF; rw [if_neg (by rw [h]; decide)]
  obtain ⟨R, hR⟩ : ∃ R, Hid (progB d xs = R) := ⟨_, rfl⟩
  rw [hR.out] at NO YS ⊢
  clear h hi
  obtain ⟨n, hn⟩ : ∃ n, Hid (xs.length = n) := ⟨_, rfl⟩
  rw [hn.out] at a1 BR ⊢
  cases hg : (codeB d && itemsB xs)
  · have e2 := E2.out hg
    have HF := hide (NO.out hg)
    rw [e2] at BR
    clear e2 hg NO YS E1 E2
    go_enter Tryz.func48, Tryz.ntmps48
    go_wp2_with fail
    rw [← hW0.out]
    clear hW0
    refine BR.out.mono ?_
    rintro e w1 ⟨A', c', m, rfl, -, x1⟩
    have X1 := hide (X0.out.trans x1)
    clear x1 BR
    go_wp2
    go_ret
    exact ⟨ret_bool HF.out.symm, X1.out⟩
  · have e1 := E1.out hg
    have HF := hide (YS.out hg)
    rw [e1] at BR
    clear e1 hg NO YS E1 E2
    obtain ⟨bl, hbl⟩ : ∃ bl, Hid (brokenF d xs = bl) := ⟨_, rfl⟩
    rw [hbl.out] at BR HF
    go_enter Tryz.func48, Tryz.ntmps48
    go_wp2_with fail
    rw [← hW0.out]
    clear hW0
    refine BR.out.mono ?_
    rintro e w1 ⟨A', c', m, rfl, ho, x1⟩
    have X1 := hide (X0.out.trans x1)
    have hl : Hid (bl.length = m) := ho.len
    rw [hl.out] at HF
    clear x1 BR ho
    by_cases hm : m = 0
    · subst hm
      have HT : Hid (R = true) := by show _ = _; rw [HF.out]; simp
      clear HF hl
      go_wp2
      go_ret
      exact ⟨ret_bool HT.out.symm, X1.out⟩
    · have HT : Hid (R = false) := by show _ = _; rw [HF.out]; simp; omega
      have g1 : ((m : Int) == 0) = false := by rw [beq_eq_false_iff_ne]; omega
      clear HF hl
      go_wp2
      go_ret
      exact ⟨ret_bool HT.out.symm, X1.out⟩

end Go.Proofs.YtegoapdbpfhkiaaGreat

/- Lists with Late as the rule says. -/
namespace Go.Proofs.YtegoapdbpfhkiaaGreat
open Go.RowKit Go.Sort
set_option linter.unusedVariables false

def lateK (xs : List ItD) (k : Nat) : List ItD := (List.range xs.length).map (fun i => if i < k then lateD xs.length i (xs.getD i noItem) else xs.getD i noItem)
theorem lateK_len (xs : List ItD) (k : Nat) : (lateK xs k).length = xs.length := by simp [lateK]
theorem lateK_get (xs : List ItD) (k i : Nat) (h : i < xs.length) : (lateK xs k)[i]? = some (if i < k then lateD xs.length i xs[i] else xs[i]) := by
  unfold lateK
  rw [List.getElem?_map, List.getElem?_range h, Option.map_some, List.getD_eq_getElem?_getD, List.getElem?_eq_getElem h]
  rfl
theorem lateK_zero (xs : List ItD) : lateK xs 0 = xs := by
  apply List.ext_getElem?
  intro i
  by_cases h : i < xs.length
  · rw [lateK_get xs 0 i h, List.getElem?_eq_getElem h, if_neg (by omega)]
  · rw [List.getElem?_eq_none (by rw [lateK_len]; omega), List.getElem?_eq_none (by omega)]
theorem lateK_all (xs : List ItD) : lateK xs xs.length = lateL xs := by
  unfold lateK lateL
  refine List.map_congr_left fun i hi => ?_
  rw [if_pos (List.mem_range.1 hi)]
theorem lateK_at (xs : List ItD) {k : Nat} {x : ItD} (h : xs[k]? = some x) : (lateK xs k)[k]? = some x := by
  obtain ⟨hk, rfl⟩ := List.getElem?_eq_some_iff.1 h
  rw [lateK_get xs k k hk, if_neg (by omega)]
theorem lateK_set (xs : List ItD) {k : Nat} {x : ItD} (h : xs[k]? = some x) : (lateK xs k).set k (lateD xs.length k x) = lateK xs (k + 1) := by
  obtain ⟨hk, rfl⟩ := List.getElem?_eq_some_iff.1 h
  apply List.ext_getElem?
  intro i
  rw [List.getElem?_set, lateK_len]
  by_cases h : i < xs.length
  · rw [lateK_get xs (k + 1) i h, lateK_get xs k i h]
    by_cases hki : k = i
    · subst hki
      rw [if_pos rfl, if_pos h, if_pos (by omega)]
    · rw [if_neg hki]
      by_cases hi : i < k
      · rw [if_pos hi, if_pos (by omega)]
      · rw [if_neg hi, if_neg (by omega)]
  · rw [if_neg (by omega)]
    rw [List.getElem?_eq_none (by rw [lateK_len]; omega), List.getElem?_eq_none (by rw [lateK_len]; omega)]
theorem kdItem.own_late {w : World} {cs : List Value} {x : ItD} {f : List Nat} (h : kdItem.own w cs x f) (q : Bool) : cs[2]? = some (.bool x.2.2) ∧ kdItem.own w (cs.set 2 (.bool q)) (x.1, x.2.1, q) f := by
  obtain ⟨v1, v2, f1, f2, hcs0, ⟨A1, c1, rfl, l1⟩, ⟨v3, v4, f3, f4, rfl, ⟨A2, c2, rfl, l2⟩, ⟨h4, rfl⟩, hf2, _⟩, hf, hnd⟩ := h
  have h4 : v4 = [.bool x.2.2] := h4
  subst h4
  simp only [List.append_nil] at hf2
  subst hf2
  have hcs0 : cs = [.slice A1 x.1.length c1, .slice A2 x.2.1.length c2, .bool x.2.2] := hcs0
  subst hcs0
  subst hf
  have hdj : ∀ i ∈ f1, i ∉ f2 := by rw [List.nodup_append] at hnd; exact fun i hi hi' => hnd.2.2 i hi i hi' rfl
  exact ⟨rfl, kdItem.mkOwn (d := (x.1, x.2.1, q)) l1 l2 hdj⟩

set_option maxRecDepth 100000 in
set_option maxHeartbeats 2000000 in
theorem i.markLate_m (w : World) (A : Option Addr) (c B : Nat) (xs : List ItD) (h : LR kdItem w B A c xs) (hB : B ≤ w.heap.size) (hwt : wtL kdItem xs ≤ 1048576) :
    Calls Tryz.prog 27 #[.slice A xs.length c] w fun e w' => ∃ A' c' fp, e = .returned (.slice A' xs.length c') ∧ LO kdItem 51 w' A' c' (lateL xs) fp ∧ (∀ i ∈ fp, w.heap.size ≤ i) ∧ Ext w w' := by
  have CI := hide (i.copyItems_any w A c B xs h hB hwt)
  have hlen := wtL_len kdItem xs
  have hn0 : xs.length ≤ 1048576 := by omega
  have a1 := h.1; have a2 := h.2.1
  have LA := hide (lateK_all xs)
  have LS := hide (fun (k : Nat) (x : ItD) (hx : xs[k]? = some x) => lateK_set xs hx)
  clear h hwt hlen
  obtain ⟨n, hn⟩ : ∃ n, Hid (xs.length = n) := ⟨_, rfl⟩
  rw [hn.out] at CI hn0 a1 LA LS ⊢
  go_enter Tryz.func27, Tryz.ntmps27
  go_wp2_with fail
  refine CI.out.mono ?_
  rintro e w1 ⟨A1, c1, fp, rfl, ho, hf, hx⟩
  have HO : Hid (LO kdItem 51 w1 A1 c1 (lateK xs 0) fp) := by rw [lateK_zero]; exact ho
  have HF := hide hf
  have HX := hide hx
  have cap := ho.cap
  rw [hn.out] at cap
  have ca1 := cap.1; have ca2 := cap.2
  clear ho hf hx CI cap
  go_wp2
  go_loopw [9] (fun i wr => ∃ (k : Nat), k ≤ n ∧ i = .int .i64 k ∧ LO kdItem 51 wr A1 c1 (lateK xs k) fp ∧ Ext w wr) (fun i _ => n - (intOf i).toNat)
  case atStart => exact ⟨0, Nat.zero_le _, rfl, HO.out, HX.out⟩
  case round =>
    obtain ⟨k, hk, rfl, ho, hx⟩ := hrel
    clear HO HX
    by_cases hlt : k < n
    · obtain ⟨x, hxk⟩ : ∃ x, Hid (xs[k]? = some x) := get_exP xs k (by rw [hn.out]; exact hlt)
      obtain ⟨g, cs, f, rfl, own, sub, mem, glt, cell, free, put⟩ := LO.put ho k x (lateK_at xs hxk.out)
      have gw := HF.out g mem
      have OL := kdItem.own_late own (decide ((n : Int) ≤ 2 * (k : Int)))
      have q2 : wr.cell? ⟨g, k * 3 + 2, none⟩ = some (.bool x.2.2) := cell 2 _ OL.1
      have qf := free (k * 3 + 2)
      have P2 := put wr 2 (.bool (decide ((n : Int) ≤ 2 * (k : Int)))) _ (by decide) OL.2 (TchF.refl _ _)
      have e2 : (x.1, x.2.1, decide ((n : Int) ≤ 2 * (k : Int))) = lateD n k x := rfl
      rw [e2, LS.out k x hxk.out] at P2
      have YX : Hid (Ext w (wr.setCell ⟨g, k * kdItem.size + 2, none⟩ (.bool (decide ((n : Int) ≤ 2 * (k : Int)))))) := Below.setCell hx (by simpa using gw) _
      have P2' : Hid (LO kdItem 51 (wr.setCell ⟨g, k * 3 + 2, none⟩ (.bool (decide ((n : Int) ≤ 2 * (k : Int))))) (some ⟨g, 0, none⟩) c1 (lateK xs (k + 1)) fp) := P2
      have YX' : Hid (Ext w (wr.setCell ⟨g, k * 3 + 2, none⟩ (.bool (decide ((n : Int) ≤ 2 * (k : Int)))))) := YX.out
      clear ho hx own sub cell free put OL P2 e2 YX
      have i1 : (k : Int) < n := by omega
      obtain ⟨T, hT⟩ : ∃ T, Hid (decide ((n : Int) ≤ 2 * (k : Int)) = T) := ⟨_, rfl⟩
      rw [hT.out] at P2' YX'
      have IL := hide (fun (wq : World) => i.isLateAt_any (k : Int) (n : Int) wq (by omega) (by omega) (by omega) (by omega))
      rw [hT.out] at IL
      clear hT
      go_wp2_with fail
      refine (IL.out _).mono ?_
      rintro e w5 ⟨rfl, rfl⟩
      clear IL
      go_wp2
      generalize wr.setCell ⟨g, k * 3 + 2, none⟩ (.bool T) = w6 at *
      go_roundw
      case rel => exact ⟨k + 1, by omega, by go_num, P2'.out, YX'.out⟩
      case measure => simp [intOf]; omega
    · have ek : n = k := by omega
      subst ek
      have HO := hide ho
      have HX := hide hx
      clear ho hx
      rw [LA.out] at HO
      go_wp2
      go_ret
      exact ⟨_, _, fp, rfl, HO.out, HF.out, HX.out⟩
set_option maxRecDepth 100000 in
set_option maxHeartbeats 2000000 in
theorem s.pgLate_m (w : World) (A : Option Addr) (c B : Nat) (xs : List ItD) (h : LR kdItem w B A c xs) (hB : B ≤ w.heap.size) (hwt : wtL kdItem xs ≤ 1048576) :
    Calls Tryz.prog 93 #[.slice A xs.length c] w fun e w' => ∃ A' c' fp, e = .returned (.slice A' xs.length c') ∧ LO kdItem 51 w' A' c' (lateL xs) fp ∧ (∀ i ∈ fp, w.heap.size ≤ i) ∧ Ext w w' := by
  have CI := hide (s.itOwn_any w A c B xs h hB hwt)
  have hlen := wtL_len kdItem xs
  have hn0 : xs.length ≤ 1048576 := by omega
  have a1 := h.1; have a2 := h.2.1
  have LA := hide (lateK_all xs)
  have LS := hide (fun (k : Nat) (x : ItD) (hx : xs[k]? = some x) => lateK_set xs hx)
  clear h hwt hlen
  obtain ⟨n, hn⟩ : ∃ n, Hid (xs.length = n) := ⟨_, rfl⟩
  rw [hn.out] at CI hn0 a1 LA LS ⊢
  go_enter Tryz.func93, Tryz.ntmps93
  go_wp2_with fail
  refine CI.out.mono ?_
  rintro e w1 ⟨A1, c1, fp, rfl, ho, hf, hx⟩
  have HO : Hid (LO kdItem 51 w1 A1 c1 (lateK xs 0) fp) := by rw [lateK_zero]; exact ho
  have HF := hide hf
  have HX := hide hx
  have cap := ho.cap
  rw [hn.out] at cap
  have ca1 := cap.1; have ca2 := cap.2
  clear ho hf hx CI cap
  go_wp2
  go_loopw [9] (fun i wr => ∃ (k : Nat), k ≤ n ∧ i = .int .i64 k ∧ LO kdItem 51 wr A1 c1 (lateK xs k) fp ∧ Ext w wr) (fun i _ => n - (intOf i).toNat)
  case atStart => exact ⟨0, Nat.zero_le _, rfl, HO.out, HX.out⟩
  case round =>
    obtain ⟨k, hk, rfl, ho, hx⟩ := hrel
    clear HO HX
    by_cases hlt : k < n
    · obtain ⟨x, hxk⟩ : ∃ x, Hid (xs[k]? = some x) := get_exP xs k (by rw [hn.out]; exact hlt)
      obtain ⟨g, cs, f, rfl, own, sub, mem, glt, cell, free, put⟩ := LO.put ho k x (lateK_at xs hxk.out)
      have gw := HF.out g mem
      have OL := kdItem.own_late own (decide ((n : Int) ≤ 2 * (k : Int)))
      have q2 : wr.cell? ⟨g, k * 3 + 2, none⟩ = some (.bool x.2.2) := cell 2 _ OL.1
      have qf := free (k * 3 + 2)
      have P2 := put wr 2 (.bool (decide ((n : Int) ≤ 2 * (k : Int)))) _ (by decide) OL.2 (TchF.refl _ _)
      have e2 : (x.1, x.2.1, decide ((n : Int) ≤ 2 * (k : Int))) = lateD n k x := rfl
      rw [e2, LS.out k x hxk.out] at P2
      have YX : Hid (Ext w (wr.setCell ⟨g, k * kdItem.size + 2, none⟩ (.bool (decide ((n : Int) ≤ 2 * (k : Int)))))) := Below.setCell hx (by simpa using gw) _
      have P2' : Hid (LO kdItem 51 (wr.setCell ⟨g, k * 3 + 2, none⟩ (.bool (decide ((n : Int) ≤ 2 * (k : Int))))) (some ⟨g, 0, none⟩) c1 (lateK xs (k + 1)) fp) := P2
      have YX' : Hid (Ext w (wr.setCell ⟨g, k * 3 + 2, none⟩ (.bool (decide ((n : Int) ≤ 2 * (k : Int)))))) := YX.out
      clear ho hx own sub cell free put OL P2 e2 YX
      have i1 : (k : Int) < n := by omega
      obtain ⟨T, hT⟩ : ∃ T, Hid (decide ((n : Int) ≤ 2 * (k : Int)) = T) := ⟨_, rfl⟩
      rw [hT.out] at P2' YX'
      cases T
      · have i2 : ¬ (n : Int) ≤ 2 * (k : Int) := by simpa using hT.out
        clear hT
        go_wp2
        generalize wr.setCell ⟨g, k * 3 + 2, none⟩ (.bool false) = w6 at *
        go_roundw
        case rel => exact ⟨k + 1, by omega, by go_num, P2'.out, YX'.out⟩
        case measure => simp [intOf]; omega
      · have i2 : (n : Int) ≤ 2 * (k : Int) := by simpa using hT.out
        clear hT
        go_wp2
        generalize wr.setCell ⟨g, k * 3 + 2, none⟩ (.bool true) = w6 at *
        go_roundw
        case rel => exact ⟨k + 1, by omega, by go_num, P2'.out, YX'.out⟩
        case measure => simp [intOf]; omega
    · have ek : n = k := by omega
      subst ek
      have HO := hide ho
      have HX := hide hx
      clear ho hx
      rw [LA.out] at HO
      go_wp2
      go_ret
      exact ⟨_, _, fp, rfl, HO.out, HF.out, HX.out⟩
end Go.Proofs.YtegoapdbpfhkiaaGreat
