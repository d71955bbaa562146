/- Names repeated as they may be. -/
import Derived.Test.YtiohjcadmahkgaaGreatPX
namespace Go.Proofs.YtiohjcadmahkgaaGreat
open Go.RowKit Go.Sort
set_option linter.unusedVariables false
def repI (d : CoD) (xs : List ItD) (x : ItD) : Bool := x.1.all (repW d xs)

set_option maxRecDepth 100000 in
set_option maxHeartbeats 1000000 in
theorem i.repeatsWell_m (w : World) (v : Value) (d : CoD) (A : Option Addr) (c B : Nat) (xs : List ItD) (h : kC.rd w v d) (hok : kC.ok d) (hi : LR kdItem w B A c xs) (hB : B ≤ w.heap.size) (h14 : xs.length ≤ 14) (h3 : ∀ x ∈ xs, x.1.length ≤ 3) :
    Calls Tryz.prog 93 #[v, .slice A xs.length c] w fun e w' => e = .returned (.bool (xs.all (repI d xs))) ∧ Ext w w' := by
  obtain ⟨Ac, cc, Al, cl, rfl, _⟩ := kC.lr h
  obtain ⟨nc, NC⟩ : ∃ z, Hid (d.1.length = z) := ⟨_, rfl⟩
  obtain ⟨nl, NL⟩ : ∃ z, Hid (d.2.1.length = z) := ⟨_, rfl⟩
  obtain ⟨r, RN⟩ : ∃ z, Hid (d.2.2.1 = z) := ⟨_, rfl⟩
  obtain ⟨b, BN⟩ : ∃ z, Hid (d.2.2.2.1 = z) := ⟨_, rfl⟩
  obtain ⟨p, PN⟩ : ∃ z, Hid (d.2.2.2.2.1 = z) := ⟨_, rfl⟩
  obtain ⟨f, FN⟩ : ∃ z, Hid (d.2.2.2.2.2 = z) := ⟨_, rfl⟩
  rw [NC.out, NL.out, RN.out, BN.out, PN.out, FN.out] at h ⊢
  have HR := hide h
  have H := hide hi
  have H3 := hide h3
  have a1 := hi.1; have a2 := hi.2.1
  clear h hi h3
  obtain ⟨R, hR⟩ : ∃ R, Hid (xs.all (repI d xs) = R) := ⟨_, rfl⟩
  rw [hR.out]
  obtain ⟨n, hn⟩ : ∃ n, Hid (xs.length = n) := ⟨_, rfl⟩
  have H14 := hide h14
  rw [hn.out] at h14 a1 ⊢
  obtain ⟨W0, hW0⟩ : ∃ W0, Hid (W0 = w.alloc (.cells #[.slice Ac nc cc, .slice Al nl cl, .int .i64 r, .int .i64 b, .int .i64 p, .int .i64 f] 34)) := ⟨_, rfl⟩
  have X0 : Hid (Ext w W0) := by rw [hW0.out]; exact Ext.alloc w _
  have B0 : Hid (Blk W0 w.heap.size #[.slice Ac nc cc, .slice Al nl cl, .int .i64 r, .int .i64 b, .int .i64 p, .int .i64 f] 34) := by rw [hW0.out]; exact Blk.new rfl _ _
  go_enter Tryz.func93, Tryz.ntmps93
  go_wp2
  rw [← hW0.out]
  clear hW0
  go_loopw [13] (fun i wr => ∃ (k : Nat), k ≤ n ∧ i = .int .i64 k ∧ (xs.take k).all (repI d xs) = true ∧ Ext W0 wr) (fun i _ => n - (intOf i).toNat)
  case atStart => exact ⟨0, Nat.zero_le _, rfl, rfl, Ext.refl _⟩
  case round =>
    obtain ⟨k, hk, rfl, hall, hx⟩ := hrel
    have HA := hide hall
    have HX := hide hx
    clear hall hx
    by_cases hlt : k < n
    · obtain ⟨x, hxk⟩ : ∃ x, Hid (xs[k]? = some x) := ⟨_, List.getElem?_eq_getElem (by rw [hn.out]; exact hlt)⟩
      have XW := hide (X0.out.trans HX.out)
      obtain ⟨bb, off, A1, c1, A2, c2, rfl, hb, q0, q1, q2, r1, r2⟩ := (H.out.ext XW.out hB).item k x hxk.out
      have k1 := H3.out x (List.mem_of_getElem? hxk.out)
      have sz := XW.out.size
      obtain ⟨W1, hW1⟩ : ∃ W1, Hid (W1 = wr.alloc (.cells #[.slice A1 x.1.length c1, .slice A2 x.2.1.length c2, .bool x.2.2] 53)) := ⟨_, rfl⟩
      have X1 : Hid (Ext W0 W1) := by rw [hW1.out]; exact HX.out.trans (Ext.alloc _ _)
      have R1 := hide (r1.ext (show Ext wr W1 by rw [hW1.out]; exact Ext.alloc _ _) (by omega))
      have b1 := r1.1; have b2 := r1.2.1
      clear r1 r2
      have hKI : ∀ (y : ItD), repI d xs y = y.1.all (repW d xs) := fun _ => rfl
      have HKI := hide (hKI x)
      clear hKI
      obtain ⟨m, hm⟩ : ∃ m, Hid (x.1.length = m) := ⟨_, rfl⟩
      rw [hm.out] at q0 hW1 k1 b1
      generalize x.2.1.length = m2 at *
      generalize x.2.2 = m3 at *
      go_wp2
      rw [← hW1.out]
      clear hW1 q0 q1 q2
      go_loopw [20] (fun i wr => ∃ (j : Nat), j ≤ m ∧ i = .int .i64 j ∧ (x.1.take j).all (repW d xs) = true ∧ Ext W1 wr) (fun i _ => m - (intOf i).toNat)
      case atStart => exact ⟨0, Nat.zero_le _, rfl, rfl, Ext.refl _⟩
      case round =>
        obtain ⟨j, hj, rfl, hall, hx⟩ := hrel
        have HA2 := hide hall
        have HX2 := hide hx
        clear hall hx
        by_cases hltj : j < m
        · obtain ⟨nm, hnj⟩ : ∃ nm, Hid (x.1[j]? = some nm) := ⟨_, List.getElem?_eq_getElem (by rw [hm.out]; exact hltj)⟩
          obtain ⟨b9, off9, rfl, hb9, u0, ul⟩ := (R1.out.ext HX2.out (by have := X1.out.size; have := X0.out.size; omega)).str j nm hnj.out
          have XX := hide (X1.out.trans HX2.out)
          have cB := (B0.out.ext XX.out).cell
          have FE := hide (i.timesOf_m wr (some ⟨bb, off, none⟩) c B xs nm (H.out.ext (X0.out.trans XX.out) hB) (Nat.le_trans hB (X0.out.trans XX.out).size) H14.out H3.out)
          have RW := hide (repW_eq (d := d) (List.mem_of_getElem? hxk.out) (List.mem_of_getElem? hnj.out))
          obtain ⟨ta, hta⟩ : ∃ z, Hid (occN xs nm = z) := ⟨_, rfl⟩
          obtain ⟨tb, htb⟩ : ∃ z, Hid (occC xs nm = z) := ⟨_, rfl⟩
          rw [hta.out, htb.out] at FE RW
          rw [RN.out] at RW
          rw [hn.out] at FE
          generalize bs nm = nb at *
          go_wp2_with fail
          refine FE.out.mono ?_
          rintro e w2 ⟨rfl, x2⟩
          have HX3 := hide (HX2.out.trans x2)
          clear x2 u0 FE cB
          have cB := (B0.out.ext (X1.out.trans HX3.out)).cell
          by_cases g1 : r < (ta : Int)
          · have HF : Hid (R = false) := by
              show _ = _
              rw [← hR.out]
              exact allL_stop hxk.out (by rw [HKI.out]; exact allL_stop hnj.out (by rw [RW.out]; simp [g1]))
            go_wp2
            go_ret
            exact ⟨ret_bool HF.out.symm, X0.out.trans (X1.out.trans HX3.out)⟩
          · by_cases g2 : (1 : Int) < (ta : Int)
            · by_cases g3 : (tb : Int) = 0
              · have HF : Hid (R = false) := by
                  show _ = _
                  rw [← hR.out]
                  exact allL_stop hxk.out (by rw [HKI.out]; exact allL_stop hnj.out (by rw [RW.out]; simp [g2, g3]))
                go_wp2
                go_ret
                exact ⟨ret_bool HF.out.symm, X0.out.trans (X1.out.trans HX3.out)⟩
              · have g4 : ((tb : Int) == 0) = false := by rw [beq_eq_false_iff_ne]; exact g3
                have HN : Hid (repW d xs nm = true) := by show _ = _; rw [RW.out]; simp [g1]; try omega
                go_wp2
                go_roundw
                case rel => exact ⟨j + 1, by omega, by go_num, allL_step hnj.out HA2.out HN.out, HX3.out⟩
                case measure => simp [intOf]; omega
            · have HN : Hid (repW d xs nm = true) := by show _ = _; rw [RW.out]; simp [g1, g2]; try omega
              go_wp2
              go_roundw
              case rel => exact ⟨j + 1, by omega, by go_num, allL_step hnj.out HA2.out HN.out, HX3.out⟩
              case measure => simp [intOf]; omega
        · have HN : Hid (repI d xs x = true) := by show _ = _; rw [HKI.out]; exact allL_end (by rw [hm.out]; omega) HA2.out
          go_wp2
          go_roundw
          case rel => exact ⟨k + 1, by omega, by go_num, allL_step hxk.out HA.out HN.out, X1.out.trans HX2.out⟩
          case measure => simp [intOf]; omega
    · have HF : Hid (R = true) := by show _ = _; rw [← hR.out]; exact allL_end (by rw [hn.out]; omega) HA.out
      go_wp2
      go_ret
      exact ⟨ret_bool HF.out.symm, X0.out.trans HX.out⟩
end Go.Proofs.YtiohjcadmahkgaaGreat
