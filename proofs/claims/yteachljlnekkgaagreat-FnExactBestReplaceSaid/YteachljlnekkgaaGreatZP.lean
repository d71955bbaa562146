/- ReplaceGain. -/
import Derived.Test.YteachljlnekkgaaGreatZO
import Derived.Deep.RegionHeld3
namespace Go.Proofs.YteachljlnekkgaaGreat
open Go.RowKit Go.Sort
set_option linter.unusedVariables false

theorem inB_nat {n : Nat} {k : Int} (h : inB 0 ((n : Int) - 1) k = true) : ∃ j : Nat, k = j ∧ j < n := by
  simp only [inB, Bool.and_eq_true, decide_eq_true_eq] at h
  exact ⟨k.toNat, by omega, by omega⟩

set_option maxRecDepth 100000 in
set_option maxHeartbeats 4000000 in
theorem i.ReplaceGain_law (w : World) (v v1 : Value) (d : CoD) (xs : List ItD) (k : Int) (nm : List UInt8) (h : kC.rd w v d) (hok : kC.ok d) (hx : kIt.rd w v1 xs) (hox : kIt.ok xs) (hk : InR k) (hnm : nm.length ≤ 1048576) :
    Calls Tryz.prog 11 #[v, v1, .int .i64 k, .string (bs nm)] w fun e w' => e = .returned (.tuple #[.int .i64 (gainF d xs k nm).1, .bool (gainF d xs k nm).2]) ∧ Ext w w' := by
  obtain ⟨Ac, cc, Al, cl, rfl, hle, _⟩ := kC.lr h
  obtain ⟨nc, NC⟩ : ∃ z, Hid (d.1.length = z) := ⟨_, rfl⟩
  obtain ⟨nl, NL⟩ : ∃ z, Hid (d.2.1.length = z) := ⟨_, rfl⟩
  obtain ⟨rr, RN⟩ : ∃ z, Hid (d.2.2.1 = z) := ⟨_, rfl⟩
  obtain ⟨b, BN⟩ : ∃ z, Hid (d.2.2.2.1 = z) := ⟨_, rfl⟩
  obtain ⟨p, PN⟩ : ∃ z, Hid (d.2.2.2.2.1 = z) := ⟨_, rfl⟩
  obtain ⟨f, FN⟩ : ∃ z, Hid (d.2.2.2.2.2 = z) := ⟨_, rfl⟩
  rw [NC.out, NL.out, RN.out, BN.out, PN.out, FN.out] at h ⊢
  obtain ⟨A, c, rfl, hl⟩ := kIt.lr hx
  have hw : wtL kdItem xs ≤ 1048576 := hox
  have hlen := Nat.le_trans (wtL_len kdItem xs) hw
  have HR := hide h
  have HL := hide hl
  have HLE := hide hle
  have a1 := hl.1; have a2 := hl.2.1
  obtain ⟨W0, hW0⟩ : ∃ W0, Hid (W0 = w.alloc (.cells #[.slice Ac nc cc, .slice Al nl cl, .int .i64 rr, .int .i64 b, .int .i64 p, .int .i64 f] 33)) := ⟨_, rfl⟩
  have X0 : Hid (Ext w W0) := by rw [hW0.out]; exact Ext.alloc w _
  have B0 : Hid (Blk W0 w.heap.size #[.slice Ac nc cc, .slice Al nl cl, .int .i64 rr, .int .i64 b, .int .i64 p, .int .i64 f] 33) := by rw [hW0.out]; exact Blk.new rfl _ _
  have PG := hide (i.isProgramme_m W0 _ d A c w.heap.size xs (kC.rd_ext h X0.out) hok (hl.ext X0.out (Nat.le_refl _)) X0.out.size hw)
  have FE := hide (fun (wq : World) (xq : Ext w wq) => i.findElement_m wq _ d nm (kC.rd_ext HR.out xq) hok)
  have GG := hide (gain_guard (d := d) (xs := xs) (k := k) (nm := nm)).2
  have RG := hide (fun (wq : World) (xq : Ext w wq) (hp : progB d xs = true) (j : Nat) (hj : j < xs.length) (x : ElD) (hx : nameB x.1 = true) => i.replaceGain_m wq _ d A c w.heap.size xs j x (kC.rd_ext HR.out xq) hok (HL.out.ext xq (Nat.le_refl _)) xq.size hp hj hx)
  have GF : Hid (gainF d xs k nm = if progB d xs && inB 0 ((xs.length : Int) - 1) k && progB d (replL xs k.toNat nm) then (gainV d xs (replL xs k.toNat nm), true) else (0, false)) := rfl
  obtain ⟨F, hF⟩ : ∃ F, Hid (gainF d xs k nm = F) := ⟨_, rfl⟩
  rw [hF.out] at GF ⊢
  clear h hx hl hox hw hle
  obtain ⟨n, hn⟩ : ∃ n, Hid (xs.length = n) := ⟨_, rfl⟩
  rw [hn.out] at a1 hlen PG GG RG GF ⊢
  have cB := B0.out.cell
  rw [hW0.out] at cB
  generalize hb : bs nm = nb at *
  have HB := hide hb
  clear hb
  cases hp : progB d xs
  · have HF : Hid (F = (0, false)) := by show _ = _; rw [GF.out, hp]; rfl
    rw [hp] at PG
    clear hp GG RG GF FE
    go_enter Tryz.func11, Tryz.ntmps11
    go_wp2_with fail
    rw [← hW0.out]
    clear hW0 cB
    refine PG.out.mono ?_
    rintro e w1 ⟨rfl, x1⟩
    have X1 := hide (X0.out.trans x1)
    clear x1 PG
    go_wp2
    go_ret2
    rw [HF.out]
    exact ⟨rfl, X1.out⟩
  have HP := hide hp
  rw [hp] at PG GG GF
  clear hp
  cases hi : inB 0 ((n : Int) - 1) k
  · have HF : Hid (F = (0, false)) := by show _ = _; rw [GF.out, hi]; rfl
    have IW := hide (fun wq => i.within_any k 0 ((n : Int) - 1) wq)
    rw [hi] at IW
    clear hi GG RG GF FE
    go_enter Tryz.func11, Tryz.ntmps11
    go_wp2_with fail
    rw [← hW0.out]
    clear hW0 cB
    refine PG.out.mono ?_
    rintro e w1 ⟨rfl, x1⟩
    have X1 := hide (X0.out.trans x1)
    clear x1 PG
    go_wp2_with (go_at_call 33; refine (IW.out _).mono ?_; rintro e w2 ⟨rfl, rfl⟩)
    go_ret2
    rw [HF.out]
    exact ⟨rfl, X1.out⟩
  have IW := hide (fun wq => i.within_any k 0 ((n : Int) - 1) wq)
  rw [hi] at IW GG GF
  obtain ⟨j, hj, hjn⟩ := inB_nat hi
  clear hi
  subst hj
  rw [Int.toNat_natCast] at GG GF
  have FB := findF_ge d.1 nm
  by_cases hneg : findF d.1 nm < 0
  · have HF : Hid (F = (0, false)) := by
      have h8 := GG.out
      rw [show decide (0 ≤ findF d.1 nm) = false from by simp; omega] at h8
      show _ = _
      rw [GF.out, ← h8]; rfl
    obtain ⟨Q, hQ⟩ : ∃ Q, Hid (findF d.1 nm = Q) := ⟨_, rfl⟩
    rw [hQ.out] at FE hneg FB
    clear GG RG GF
    go_enter Tryz.func11, Tryz.ntmps11
    go_wp2_with fail
    rw [← hW0.out]
    clear hW0 cB
    refine PG.out.mono ?_
    rintro e w1 ⟨rfl, x1⟩
    have X1 := hide (X0.out.trans x1)
    have cC := (B0.out.ext x1).cell
    clear x1 PG
    go_wp2_with (first | (go_at_call 33; refine (IW.out _).mono ?_; rintro e w2 ⟨rfl, rfl⟩) | (go_at_call 34; refine (FE.out w1 X1.out).mono ?_; rintro e w2 ⟨rfl, x2⟩; have X2 := hide (X1.out.trans x2); clear x2))
    go_ret2
    rw [HF.out]
    exact ⟨rfl, X2.out⟩
  obtain ⟨e9, y, hQ, hyk, hyn⟩ := findF_some (show 0 ≤ findF d.1 nm by omega)
  have HC := hide (codeB_ok (progB_code HP.out).1)
  have hyb := HC.out.els e9 y hyk
  have kn : e9 < nc := by rw [← NC.out]; exact (List.getElem?_eq_some_iff.1 hyk).1
  have n24 : nc ≤ 24 := by rw [← NC.out]; exact HC.out.n2
  have hl := HLE.out
  obtain ⟨be, oe, rfl, hbe, g0, g1, g2, g3, xl⟩ := hl.element e9 y hyk
  have cx1 := hl.1; have cx2 := hl.2.1
  rw [NC.out] at cx1
  have hyn2 : nameB y.1 = true := by simp only [elB, Bool.and_eq_true] at hyb; exact hyb.1.1.1
  have RQ := hide (fun (wq : World) (xq : Ext w wq) => RG.out wq xq HP.out j hjn y hyn2)
  have GR : Hid (F = gainR d xs j y.1) := by
    show _ = _
    rw [GF.out, hyn]
    unfold gainR
    cases progB d (replL xs j nm) <;> rfl
  rw [hQ] at FE
  clear GG GF RG hneg FB hQ hyk hyb hyn2 hl xl
  rw [← GR.out] at RQ
  have V : Hid (∀ w', Ext w w' → w'.cell? ⟨be, oe + e9 * 4, none⟩ = some (.string (bs y.1)) ∧ w'.cell? ⟨be, oe + e9 * 4 + 1, none⟩ = some (.int .i64 y.2.1) ∧ w'.cell? ⟨be, oe + e9 * 4 + 2, none⟩ = some (.int .i64 y.2.2.1) ∧ w'.cell? ⟨be, oe + e9 * 4 + 3, none⟩ = some (.int .i64 y.2.2.2)) := fun w' xq =>
    ⟨(xq.cell hbe).trans g0, (xq.cell hbe).trans g1, (xq.cell hbe).trans g2, (xq.cell hbe).trans g3⟩
  clear g0 g1 g2 g3 hyn
  generalize bs y.1 = yb at *
  generalize y.2.1 = y1 at *
  generalize y.2.2.1 = y2 at *
  generalize y.2.2.2 = y3 at *
  go_enter Tryz.func11, Tryz.ntmps11
  go_wp2_with fail
  rw [← hW0.out]
  clear hW0 cB
  refine PG.out.mono ?_
  rintro e w1 ⟨rfl, x1⟩
  have X1 := hide (X0.out.trans x1)
  have C1 := hide (B0.out.ext x1)
  have cC := C1.out.cell
  clear x1 PG
  go_wp2_with (first | (go_at_call 33; refine (IW.out _).mono ?_; rintro e w2 ⟨rfl, rfl⟩) | (go_at_call 34; refine (FE.out w1 X1.out).mono ?_; rintro e w2 ⟨rfl, x2⟩; have X2 := hide (X1.out.trans x2); have C2 := hide (C1.out.ext x2); clear x2 cC))
  have cC := C2.out.cell
  have cE := V.out w2 X2.out
  obtain ⟨e0, e1, e2, e3⟩ := cE
  go_region_held3 (fun w' => (∀ i, w'.cell? ⟨w.heap.size, i, none⟩ = #[Value.slice (some ⟨be, oe, none⟩) nc cc, .slice Al nl cl, .int .i64 rr, .int .i64 b, .int .i64 p, .int .i64 f][i]?) ∧ w'.cell? ⟨be, oe + e9 * 4, none⟩ = some (.string yb) ∧ w'.cell? ⟨be, oe + e9 * 4 + 1, none⟩ = some (.int .i64 y1) ∧ w'.cell? ⟨be, oe + e9 * 4 + 2, none⟩ = some (.int .i64 y2) ∧ w'.cell? ⟨be, oe + e9 * 4 + 3, none⟩ = some (.int .i64 y3))
    (first | with_reducible exact ⟨(C2.out.ext Y4.out).cell, V.out _ (X2.out.trans Y4.out)⟩ | with_reducible exact ⟨(C2.out.ext Y3.out).cell, V.out _ (X2.out.trans Y3.out)⟩ | with_reducible exact ⟨(C2.out.ext (Ext.drew _)).cell, V.out _ (X2.out.trans (Ext.drew _))⟩)
    (first | (go_at_call 35; refine (RQ.out w3 (X2.out.trans Y3.out)).mono ?_; rintro e w4 ⟨rfl, x4⟩; have Y4 := hide (Y3.out.trans x4); clear x4) | (go_at_call 34; refine (FE.out w2.drew (X2.out.trans (Ext.drew _))).mono ?_; rintro e w3 ⟨rfl, x3⟩; have Y3 := hide ((Ext.drew w2).trans x3); clear x3))
  go_wp2
  go_ret2
  exact ⟨rfl, X2.out.trans Y4.out⟩
end Go.Proofs.YteachljlnekkgaaGreat
