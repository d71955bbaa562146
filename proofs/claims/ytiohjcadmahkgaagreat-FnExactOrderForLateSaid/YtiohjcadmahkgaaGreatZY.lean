/- OrderForLate by the reference. -/
import Derived.Test.YtiohjcadmahkgaaGreatZX
namespace Go.Proofs.YtiohjcadmahkgaaGreat
open Go.RowKit Go.Sort
set_option linter.unusedVariables false

set_option maxRecDepth 100000 in
set_option maxHeartbeats 4000000 in
theorem s.OrderForLate_law (w : World) (v v1 : Value) (d : CoD) (xs : List ItD) (h : kC.rd w v d) (hok : kC.ok d) (hx : kIt.rd w v1 xs) (hox : kIt.ok xs) :
    Calls Tryz.prog 6 #[v, v1] w fun e w' => ∃ v0, e = .returned (.tuple #[v0, .bool (orderF d xs).2]) ∧ kIt.fr w' w.heap.size w'.heap.size v0 (orderF d xs).1 ∧ kIt.ok (orderF d xs).1 ∧ Ext w w' := by
  obtain ⟨Ac, nc, cc, Al, nl, cl, rr, b, p, f, rfl⟩ := kC.shape h
  obtain ⟨A, c, rfl, hl⟩ := kIt.lr hx
  have hw : wtL kdItem xs ≤ 1048576 := hox
  have hlen := Nat.le_trans (wtL_len kdItem xs) hw
  have a1 := hl.1; have a2 := hl.2.1
  obtain ⟨W0, hW0⟩ : ∃ W0, Hid (W0 = w.alloc (.cells #[.slice Ac nc cc, .slice Al nl cl, .int .i64 rr, .int .i64 b, .int .i64 p, .int .i64 f] 34)) := ⟨_, rfl⟩
  have X0 : Hid (Ext w W0) := by rw [hW0.out]; exact Ext.alloc w _
  have B0 : Hid (Blk W0 w.heap.size #[.slice Ac nc cc, .slice Al nl cl, .int .i64 rr, .int .i64 b, .int .i64 p, .int .i64 f] 34) := by rw [hW0.out]; exact Blk.new rfl _ _
  have zW := X0.out.size
  have PG := hide (s.pgGood_m W0 _ d A c w.heap.size xs (kC.rd_ext h X0.out) hok (hl.ext X0.out (Nat.le_refl _)) X0.out.size hw)
  have CI := hide (fun (wq : World) (xq : Ext w wq) => s.itOwn_any wq A c w.heap.size xs (hl.ext xq (Nat.le_refl _)) xq.size hw)
  have OF : Hid (orderF d xs = if progB d xs then (orderL d xs, true) else ([], false)) := rfl
  have PO := hide (fun (hp : progB d xs = true) (wq : World) (xq : Ext w wq) (A9 : Option Addr) (c9 : Nat) (h9 : LR kdItem wq wq.heap.size A9 c9 xs) => s.pnOrder_m wq _ d A9 c9 wq.heap.size xs (kC.rd_ext h xq) hok (codeB_ok (progB_code hp).1) h9 (Nat.le_refl _) (progB_code hp).2 (fun y hy => by
    obtain ⟨k, hk⟩ := List.getElem?_of_mem hy
    exact (progB_ls hp).it k y hk))
  have OB := hide (fun (hp : progB d xs = true) => itemsB_wt1 (itemsB_order (d := d) (progB_code hp).2))
  have OL := hide (orderL_len d xs)
  clear h hx hl hox hw
  obtain ⟨F, hF⟩ : ∃ F, Hid (orderF d xs = F) := ⟨_, rfl⟩
  rw [hF.out] at OF ⊢
  obtain ⟨n, hn⟩ : ∃ n, Hid (xs.length = n) := ⟨_, rfl⟩
  rw [hn.out] at a1 hlen PG CI PO OL ⊢
  have cB := B0.out.cell
  rw [hW0.out] at cB
  go_enter Tryz.func6, Tryz.ntmps6
  go_wp2_with fail
  rw [← hW0.out]
  clear hW0 cB
  refine PG.out.mono ?_
  rintro e w1 ⟨rfl, x1⟩
  have Y1 := hide x1
  have B1 := hide (B0.out.ext x1)
  clear x1 PG
  cases hp : progB d xs
  · have HF : Hid (F = ([], false)) := by show _ = _; rw [OF.out, hp]; rfl
    clear hp OF PO OB
    go_wp2
    go_ret2
    rw [HF.out]
    exact ⟨_, rfl, kIt.fr_nil _ _ _, Nat.zero_le _, X0.out.trans Y1.out⟩
  have HF : Hid (F = (orderL d xs, true)) := by show _ = _; rw [OF.out, hp]; rfl
  have PQ := hide (PO.out hp)
  have OQ := hide (OB.out hp)
  clear hp OF PO OB
  have D1 := hide (B1.out.ext (Ext.drew w1))
  go_wp2_with fail
  go_region_held3 (fun w' => ∀ i, w'.cell? ⟨w.heap.size, i, none⟩ = #[Value.slice Ac nc cc, .slice Al nl cl, .int .i64 rr, .int .i64 b, .int .i64 p, .int .i64 f][i]?)
    (first | with_reducible exact D1.out.cell | with_reducible exact B3.out.cell | with_reducible exact B2.out.cell | with_reducible exact B1.out.cell)
    (first
    | (go_at_call 19; refine (PQ.out w2 (X0.out.trans (Y1.out.trans Y2.out)) A2 c2 L2.out).mono ?_; rintro e w3 ⟨A3, c3, fp3, rfl, l3, s3, x3⟩; have L3 := hide l3; have S3 := hide s3; have Y3 := hide x3; have B3 := hide (B2.out.ext x3); clear l3 s3 x3)
    | (go_at_call 20; refine (CI.out w1.drew (X0.out.trans (Y1.out.trans (Ext.drew w1)))).mono ?_; rintro e w2 ⟨A2, c2, fp2, rfl, l2, s2, x2⟩; have L2 := hide l2.rd; have Y2 : Hid (Ext w1 w2) := (Ext.drew w1).trans x2; have B2 := hide (B1.out.ext Y2.out); clear l2 s2 x2)
    | fail)
  go_wp2
  go_ret2
  rw [HF.out]
  have z1 := (Y1.out.trans Y2.out).size
  exact ⟨_, rfl, kIt.ofOwn L3.out (fun i hi => by have := S3.out i hi; omega) OL.out.symm, OQ.out, X0.out.trans (Y1.out.trans (Y2.out.trans Y3.out))⟩
end Go.Proofs.YtiohjcadmahkgaaGreat
