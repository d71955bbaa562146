/- Combined items have jumps alone (the program). -/
import Derived.Test.YtiohjcadmahkgaaGreatZA
namespace Go.Proofs.YtiohjcadmahkgaaGreat
open Go.RowKit Go.Sort
set_option linter.unusedVariables false
def jumpI (d : CoD) (x : ItD) : Bool := x.1.all (jumpN d x)

set_option maxRecDepth 100000 in
set_option maxHeartbeats 2000000 in
theorem i.combinesJumps_m (w : World) (v : Value) (d : CoD) (A : Option Addr) (c B : Nat) (xs : List ItD) (h : kC.rd w v d) (hok : kC.ok d) (hd : CodeOk d) (hi : LR kdItem w B A c xs) (hB : B ≤ w.heap.size) (h14 : xs.length ≤ 14) (h3 : ∀ x ∈ xs, x.1.length ≤ 3) :
    Calls Tryz.prog 90 #[v, .slice A xs.length c] w fun e w' => e = .returned (.bool (xs.all (jumpI d))) ∧ Ext w w' := by
  obtain ⟨Ac, cc, Al, cl, rfl, hle, _⟩ := kC.lr h
  obtain ⟨nc, NC⟩ : ∃ z, Hid (d.1.length = z) := ⟨_, rfl⟩
  obtain ⟨nl, NL⟩ : ∃ z, Hid (d.2.1.length = z) := ⟨_, rfl⟩
  obtain ⟨rr, RN⟩ : ∃ z, Hid (d.2.2.1 = z) := ⟨_, rfl⟩
  obtain ⟨b, BN⟩ : ∃ z, Hid (d.2.2.2.1 = z) := ⟨_, rfl⟩
  obtain ⟨p, PN⟩ : ∃ z, Hid (d.2.2.2.2.1 = z) := ⟨_, rfl⟩
  obtain ⟨f, FN⟩ : ∃ z, Hid (d.2.2.2.2.2 = z) := ⟨_, rfl⟩
  rw [NC.out, NL.out, RN.out, BN.out, PN.out, FN.out] at h ⊢
  have HR := hide h
  have HLE := hide hle
  have H := hide hi
  have H3 := hide h3
  have HD := hide hd
  have a1 := hi.1; have a2 := hi.2.1
  clear h hi h3 hd hle
  obtain ⟨R, hR⟩ : ∃ R, Hid (xs.all (jumpI d) = R) := ⟨_, rfl⟩
  rw [hR.out]
  obtain ⟨n, hn⟩ : ∃ n, Hid (xs.length = n) := ⟨_, rfl⟩
  have H14 := hide h14
  rw [hn.out] at h14 a1 ⊢
  obtain ⟨W0, hW0⟩ : ∃ W0, Hid (W0 = w.alloc (.cells #[.slice Ac nc cc, .slice Al nl cl, .int .i64 rr, .int .i64 b, .int .i64 p, .int .i64 f] 34)) := ⟨_, rfl⟩
  have X0 : Hid (Ext w W0) := by rw [hW0.out]; exact Ext.alloc w _
  have B0 : Hid (Blk W0 w.heap.size #[.slice Ac nc cc, .slice Al nl cl, .int .i64 rr, .int .i64 b, .int .i64 p, .int .i64 f] 34) := by rw [hW0.out]; exact Blk.new rfl _ _
  go_enter Tryz.func90, Tryz.ntmps90
  go_wp2
  rw [← hW0.out]
  clear hW0
  go_loopw [12] (fun i wr => ∃ (k : Nat), k ≤ n ∧ i = .int .i64 k ∧ (xs.take k).all (jumpI d) = true ∧ Ext W0 wr) (fun i _ => n - (intOf i).toNat)
  case atStart => exact ⟨0, Nat.zero_le _, rfl, rfl, Ext.refl _⟩
  case round =>
    obtain ⟨k, hk, rfl, hall, hx⟩ := hrel
    have HA := hide hall
    have HX := hide hx
    clear hall hx
    by_cases hlt : k < n
    · obtain ⟨x, hxk⟩ : ∃ x, Hid (xs[k]? = some x) := ⟨_, List.getElem?_eq_getElem (by rw [hn.out]; exact hlt)⟩
      have XW := hide (X0.out.trans HX.out)
      obtain ⟨bb, off, A1, c1, A2, c2, rfl, hb, q0, q1, q2, r1, r2⟩ := (H.out.ext XW.out hB).item k x hxk.out
      have k1 := H3.out x (List.mem_of_getElem? hxk.out)
      have sz := XW.out.size
      obtain ⟨W1, hW1⟩ : ∃ W1, Hid (W1 = wr.alloc (.cells #[.slice A1 x.1.length c1, .slice A2 x.2.1.length c2, .bool x.2.2] 53)) := ⟨_, rfl⟩
      have X1 : Hid (Ext W0 W1) := by rw [hW1.out]; exact HX.out.trans (Ext.alloc _ _)
      have B1 : Hid (Blk W1 wr.heap.size #[.slice A1 x.1.length c1, .slice A2 x.2.1.length c2, .bool x.2.2] 53) := by rw [hW1.out]; exact Blk.new rfl _ _
      have R1 := hide (r1.ext (show Ext wr W1 by rw [hW1.out]; exact Ext.alloc _ _) (by omega))
      have b1 := r1.1; have b2 := r1.2.1; have b3 := r2.1; have b4 := r2.2.1
      clear r1 r2
      have hKI : ∀ (y : ItD), jumpI d y = y.1.all (jumpN d y) := fun _ => rfl
      have HKI := hide (hKI x)
      clear hKI
      have JQ := hide (fun (hp : 0 < x.1.length) (nm : List UInt8) => jumpN_eq d hp nm)
      have CI : Hid (combI x = decide (1 < x.1.length)) := rfl
      obtain ⟨m, hm⟩ : ∃ m, Hid (x.1.length = m) := ⟨_, rfl⟩
      rw [hm.out] at q0 hW1 k1 b1 B1 JQ CI
      generalize x.2.1.length = m2 at *
      generalize x.2.2 = m3 at *
      go_wp2
      rw [← hW1.out]
      clear hW1 q0 q1 q2
      go_loopw [19] (fun i wr => ∃ (j : Nat), j ≤ m ∧ i = .int .i64 j ∧ (x.1.take j).all (jumpN d x) = true ∧ Ext W1 wr) (fun i _ => m - (intOf i).toNat)
      case atStart => exact ⟨0, Nat.zero_le _, rfl, rfl, Ext.refl _⟩
      case round =>
        obtain ⟨j, hj, rfl, hall, hx⟩ := hrel
        have HA2 := hide hall
        have HX2 := hide hx
        clear hall hx
        by_cases hltj : j < m
        · obtain ⟨nm, hnj⟩ : ∃ nm, Hid (x.1[j]? = some nm) := ⟨_, List.getElem?_eq_getElem (by rw [hm.out]; exact hltj)⟩
          obtain ⟨b9, off9, rfl, hb9, u0, ul⟩ := (R1.out.ext HX2.out (by have := X1.out.size; have := X0.out.size; omega)).str j nm hnj.out
          have XX := hide (X1.out.trans HX2.out)
          have cB := (B0.out.ext XX.out).cell
          have FE := hide (i.findElement_m wr _ d nm (kC.rd_ext HR.out (X0.out.trans XX.out)) hok)
          have JE := hide (JQ.out (by omega) nm)
          have FK : Hid (0 ≤ findF d.1 nm → ∃ (k : Nat) (y : ElD), findF d.1 nm = k ∧ d.1[k]? = some y) := fun h => by
            obtain ⟨k, y, e1, e2, _⟩ := findF_some h
            exact ⟨k, y, e1, e2⟩
          have FB := findF_ge d.1 nm
          obtain ⟨F, hF⟩ : ∃ F, Hid (findF d.1 nm = F) := ⟨_, rfl⟩
          rw [hF.out] at FE JE FK FB
          generalize bs nm = nb at *
          go_wp2_with fail
          refine FE.out.mono ?_
          rintro e w2 ⟨rfl, x2⟩
          have HX3 := hide (HX2.out.trans x2)
          clear x2 cB u0 FE
          have cI := (B1.out.ext HX3.out).cell
          have CB := hide (i.isCombined_any w2 (some ⟨b9, off9, none⟩) A2 m c1 m2 c2 m3 b1 b2)
          go_wp2_with fail
          refine CB.out.mono ?_
          rintro e w3 ⟨rfl, x3⟩
          have HX4 := hide (HX3.out.trans x3)
          clear x3 cI CB
          by_cases hcm : 1 < m
          · have HC : Hid (combI x = true) := by show _ = _; rw [CI.out]; simp [hcm]
            rw [HC.out, Bool.true_and] at JE
            rw [show decide (1 < m) = true from by simp [hcm]]
            clear hcm
            by_cases hneg : F < 0
            · have HN : Hid (jumpN d x nm = false) := by show _ = _; rw [JE.out]; simp [hneg]
              have HF : Hid (R = false) := by
                show _ = _
                rw [← hR.out]
                exact allL_stop hxk.out (by rw [HKI.out]; exact allL_stop hnj.out HN.out)
              clear JE FK
              go_wp2
              go_ret
              exact ⟨ret_bool HF.out.symm, X0.out.trans (X1.out.trans HX4.out)⟩
            · obtain ⟨e9, y, hk9, hy⟩ := FK.out (by omega)
              have hl := HLE.out
              obtain ⟨be, oe, rfl, hbe, g0, u1, g2, g3, xl⟩ := hl.element e9 y hy
              have kn : e9 < nc := by rw [← NC.out]; exact (List.getElem?_eq_some_iff.1 hy).1
              have n24 : nc ≤ 24 := by rw [← NC.out]; exact HD.out.n2
              have cx1 := hl.1; have cx2 := hl.2.1
              rw [NC.out] at cx1
              have XA := hide (X0.out.trans (X1.out.trans HX4.out))
              have cE := (XA.out.cell hbe).trans u1
              have cC := (B0.out.ext (X1.out.trans HX4.out)).cell
              rw [hk9, Int.toNat_natCast, getD_some hy] at JE
              clear g0 u1 g2 g3 xl hl FK hy
              subst hk9
              by_cases hz : y.2.1 = 0
              · have HN : Hid (jumpN d x nm = true) := by show _ = _; rw [JE.out]; simp [hz]
                clear JE
                rw [hz] at cE
                clear hz
                go_wp2
                go_roundw
                case rel => exact ⟨j + 1, by omega, by go_num, allL_step hnj.out HA2.out HN.out, HX4.out⟩
                case measure => simp [intOf]; omega
              · have HN : Hid (jumpN d x nm = false) := by show _ = _; rw [JE.out]; simp [hz]
                have hz2 : (y.2.1 == 0) = false := by rw [beq_eq_false_iff_ne]; exact hz
                have hz3 : (y.2.1 != 0) = true := by simp [hz]
                have HF : Hid (R = false) := by
                  show _ = _
                  rw [← hR.out]
                  exact allL_stop hxk.out (by rw [HKI.out]; exact allL_stop hnj.out HN.out)
                clear JE
                generalize y.2.1 = z at *
                go_wp2
                go_ret
                exact ⟨ret_bool HF.out.symm, X0.out.trans (X1.out.trans HX4.out)⟩
          · have HC : Hid (combI x = false) := by show _ = _; rw [CI.out]; simp [hcm]
            rw [show decide (1 < m) = false from by simp [hcm]]
            have HN : Hid (jumpN d x nm = true) := by show _ = _; rw [JE.out, HC.out]; simp
            clear hcm JE FK
            go_wp2
            go_roundw
            case rel => exact ⟨j + 1, by omega, by go_num, allL_step hnj.out HA2.out HN.out, HX4.out⟩
            case measure => simp [intOf]; omega
        · have HN : Hid (jumpI d x = true) := by show _ = _; rw [HKI.out]; exact allL_end (by rw [hm.out]; omega) HA2.out
          go_wp2
          go_roundw
          case rel => exact ⟨k + 1, by omega, by go_num, allL_step hxk.out HA.out HN.out, X1.out.trans HX2.out⟩
          case measure => simp [intOf]; omega
    · have HF : Hid (R = true) := by show _ = _; rw [← hR.out]; exact allL_end (by rw [hn.out]; omega) HA.out
      go_wp2
      go_ret
      exact ⟨ret_bool HF.out.symm, X0.out.trans HX.out⟩
end Go.Proofs.YtiohjcadmahkgaaGreat
