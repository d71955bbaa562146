/- All names by the rules (the reference). -/
import Derived.Test.YtiohjcadmahkgaaGreatZB
namespace Go.Proofs.YtiohjcadmahkgaaGreat
open Go.RowKit Go.Sort
set_option linter.unusedVariables false

set_option maxRecDepth 100000 in
set_option maxHeartbeats 1000000 in
theorem s.pgNames_m (w : World) (v : Value) (d : CoD) (A : Option Addr) (c B : Nat) (xs : List ItD) (r : Int) (h : kC.rd w v d) (hok : kC.ok d) (hd : CodeOk d) (hi : LR kdItem w B A c xs) (hB : B ≤ w.heap.size) (h14 : xs.length ≤ 14) (h3 : ∀ x ∈ xs, x.1.length ≤ 3) (hr : r = 2 ∨ r = 4 ∨ r = 7) :
    Calls Tryz.prog 79 #[v, .slice A xs.length c, .int .i64 r] w fun e w' => e = .returned (.bool (namesR d xs r)) ∧ Ext w w' := by
  obtain ⟨Ac, nc, cc, Al, nl, cl, rr, b, p, f, rfl⟩ := kC.shape h
  have HR := hide h
  have H := hide hi
  have H3 := hide h3
  have HD := hide hd
  have HRR := hide hr
  have a1 := hi.1; have a2 := hi.2.1
  clear h hi h3 hd hr
  obtain ⟨R, hR⟩ : ∃ R, Hid (namesR d xs r = R) := ⟨_, rfl⟩
  rw [hR.out]
  have HS : Hid (xs.all (nameI d xs r) = R) := hR.out
  obtain ⟨n, hn⟩ : ∃ n, Hid (xs.length = n) := ⟨_, rfl⟩
  have H14 := hide h14
  rw [hn.out] at h14 a1 ⊢
  obtain ⟨W0, hW0⟩ : ∃ W0, Hid (W0 = w.alloc (.cells #[.slice Ac nc cc, .slice Al nl cl, .int .i64 rr, .int .i64 b, .int .i64 p, .int .i64 f] 34)) := ⟨_, rfl⟩
  have X0 : Hid (Ext w W0) := by rw [hW0.out]; exact Ext.alloc w _
  have B0 : Hid (Blk W0 w.heap.size #[.slice Ac nc cc, .slice Al nl cl, .int .i64 rr, .int .i64 b, .int .i64 p, .int .i64 f] 34) := by rw [hW0.out]; exact Blk.new rfl _ _
  go_enter Tryz.func79, Tryz.ntmps79
  go_wp2
  rw [← hW0.out]
  clear hW0
  go_loopw [13] (fun i wr => ∃ (k : Nat), k ≤ n ∧ i = .int .i64 k ∧ (xs.take k).all (nameI d xs r) = true ∧ Ext W0 wr) (fun i _ => n - (intOf i).toNat)
  case atStart => exact ⟨0, Nat.zero_le _, rfl, rfl, Ext.refl _⟩
  case round =>
    obtain ⟨k, hk, rfl, hall, hx⟩ := hrel
    have HA := hide hall
    have HX := hide hx
    clear hall hx
    by_cases hlt : k < n
    · obtain ⟨x, hxk⟩ : ∃ x, Hid (xs[k]? = some x) := ⟨_, List.getElem?_eq_getElem (by rw [hn.out]; exact hlt)⟩
      have XW := hide (X0.out.trans HX.out)
      obtain ⟨bb, off, A1, c1, A2, c2, rfl, hb, q0, q1, q2, r1, r2⟩ := (H.out.ext XW.out hB).item k x hxk.out
      have k1 := H3.out x (List.mem_of_getElem? hxk.out)
      have sz := XW.out.size
      obtain ⟨W1, hW1⟩ : ∃ W1, Hid (W1 = wr.alloc (.cells #[.slice A1 x.1.length c1, .slice A2 x.2.1.length c2, .bool x.2.2] 53)) := ⟨_, rfl⟩
      have X1 : Hid (Ext W0 W1) := by rw [hW1.out]; exact HX.out.trans (Ext.alloc _ _)
      have B1 : Hid (Blk W1 wr.heap.size #[.slice A1 x.1.length c1, .slice A2 x.2.1.length c2, .bool x.2.2] 53) := by rw [hW1.out]; exact Blk.new rfl _ _
      have R1 := hide (r1.ext (show Ext wr W1 by rw [hW1.out]; exact Ext.alloc _ _) (by omega))
      have b1 := r1.1; have b2 := r1.2.1
      have MK := hide (kdItem.rd_more (kdItem.mk_ (r1.ext (show Ext wr W1 by rw [hW1.out]; exact Ext.alloc _ _) (by omega)) (r2.ext (show Ext wr W1 by rw [hW1.out]; exact Ext.alloc _ _) (by omega))) (Nat.le_trans hB (X0.out.trans X1.out).size))
      clear r1 r2
      have hKI : ∀ (y : ItD), nameI d xs r y = y.1.all (nameR d xs r y) := fun _ => rfl
      have HKI := hide (hKI x)
      clear hKI
      have PN := hide (fun (nm : List UInt8) (wq : World) (xq : Ext W1 wq) => s.pgName_m wq _ d _ x (some ⟨bb, off, none⟩) c B xs nm r (kC.rd_ext HR.out ((X0.out.trans X1.out).trans xq)) hok HD.out (kdItem.rd_more (kdItem.rd_ext MK.out xq (Nat.le_refl _)) xq.size) (H.out.ext ((X0.out.trans X1.out).trans xq) hB) (Nat.le_trans hB ((X0.out.trans X1.out).trans xq).size) H14.out H3.out HRR.out)
      rw [kdItem.val3] at PN
      obtain ⟨m, hm⟩ : ∃ m, Hid (x.1.length = m) := ⟨_, rfl⟩
      rw [hm.out] at q0 hW1 k1 b1 B1
      rw [hm.out, hn.out] at PN
      generalize x.2.1.length = m2 at *
      generalize x.2.2 = m3 at *
      go_wp2
      rw [← hW1.out]
      clear hW1 q0 q1 q2
      go_loopw [20] (fun i wr => ∃ (j : Nat), j ≤ m ∧ i = .int .i64 j ∧ (x.1.take j).all (nameR d xs r x) = true ∧ Ext W1 wr) (fun i _ => m - (intOf i).toNat)
      case atStart => exact ⟨0, Nat.zero_le _, rfl, rfl, Ext.refl _⟩
      case round =>
        obtain ⟨j, hj, rfl, hall, hx⟩ := hrel
        have HA2 := hide hall
        have HX2 := hide hx
        clear hall hx
        by_cases hltj : j < m
        · obtain ⟨nm, hnj⟩ : ∃ nm, Hid (x.1[j]? = some nm) := ⟨_, List.getElem?_eq_getElem (by rw [hm.out]; exact hltj)⟩
          obtain ⟨b9, off9, rfl, hb9, u0, ul⟩ := (R1.out.ext HX2.out (by have := X1.out.size; have := X0.out.size; omega)).str j nm hnj.out
          have XX := hide (X1.out.trans HX2.out)
          have cB := (B0.out.ext XX.out).cell
          have cI := (B1.out.ext HX2.out).cell
          have FE := hide (PN.out nm wr HX2.out)
          obtain ⟨F, hF⟩ : ∃ F, Hid (nameR d xs r x nm = F) := ⟨_, rfl⟩
          rw [hF.out] at FE
          generalize bs nm = nb at *
          go_wp2_with fail
          refine FE.out.mono ?_
          rintro e w2 ⟨rfl, x2⟩
          have HX3 := hide (HX2.out.trans x2)
          clear x2 cB cI u0 FE
          cases F
          · have HF : Hid (R = false) := by
              show _ = _
              rw [← HS.out]
              exact allL_stop hxk.out (by rw [HKI.out]; exact allL_stop hnj.out hF.out)
            go_wp2
            go_ret
            exact ⟨ret_bool HF.out.symm, X0.out.trans (X1.out.trans HX3.out)⟩
          · go_wp2
            go_roundw
            case rel => exact ⟨j + 1, by omega, by go_num, allL_step hnj.out HA2.out hF.out, HX3.out⟩
            case measure => simp [intOf]; omega
        · have HN : Hid (nameI d xs r x = true) := by show _ = _; rw [HKI.out]; exact allL_end (by rw [hm.out]; omega) HA2.out
          go_wp2
          go_roundw
          case rel => exact ⟨k + 1, by omega, by go_num, allL_step hxk.out HA.out HN.out, X1.out.trans HX2.out⟩
          case measure => simp [intOf]; omega
    · have HF : Hid (R = true) := by show _ = _; rw [← HS.out]; exact allL_end (by rw [hn.out]; omega) HA.out
      go_wp2
      go_ret
      exact ⟨ret_bool HF.out.symm, X0.out.trans HX.out⟩
end Go.Proofs.YtiohjcadmahkgaaGreat
