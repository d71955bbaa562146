/- What the laws on programmes call: is it one. -/
import Derived.Test.YtegoapdbpfhkiaaGreatGZ
import Derived.Test.YtegoapdbpfhkiaaGreatGH
namespace Go.Proofs.YtegoapdbpfhkiaaGreat
open Go.RowKit Go.Sort
set_option linter.unusedVariables false

def progLaw (d : CoD) (xs : List ItD) : Bool × Bool := if codeB d && itemsB xs then (progB d xs, true) else (false, false)
set_option maxRecDepth 100000 in
set_option maxHeartbeats 1000000 in
theorem i.IsProgramme_c (w : World) (v : Value) (d : CoD) (A : Option Addr) (c : Nat) (xs : List ItD) (h : kC.rd w v d) (hok : kC.ok d) (hl : LR kdItem w w.heap.size A c xs) (hw : wtL kdItem xs ≤ 1048576) :
    Calls Tryz.prog 20 #[v, .slice A xs.length c] w fun e w' => e = .returned (.tuple #[.bool (progLaw d xs).1, .bool (progLaw d xs).2]) ∧ Ext w w' := by
  obtain ⟨Ac, nc, cc, Al, nl, cl, r, b, p, f, rfl⟩ := kC.shape h
  have hlen := Nat.le_trans (wtL_len kdItem xs) hw
  have a1 := hl.1; have a2 := hl.2.1
  have hwt := hide (fun (k : Nat) (x : ItD) (hk : xs[k]? = some x) => Nat.le_trans (wtL_at kdItem xs k x hk) hw)
  have IC := hide (fun (wq : World) (xq : Ext w wq) => i.IsCode_m wq _ d (kC.rd_ext h xq) hok)
  have II := hide (fun (wq : World) (xq : Ext w wq) => i.AreItems_wk wq A c w.heap.size xs (hl.ext xq (Nat.le_refl _)) xq.size hlen hwt.out)
  have IK := hide (fun (wq : World) (xq : Ext w wq) => i.isProgramme_m wq _ d A c w.heap.size xs (kC.rd_ext h xq) hok (hl.ext xq (Nat.le_refl _)) xq.size hw)
  obtain ⟨F, hF⟩ : ∃ F, Hid (progLaw d xs = F) := ⟨_, rfl⟩
  rw [hF.out]
  clear h hl hw hwt
  obtain ⟨W0, hW0⟩ : ∃ W0, Hid (W0 = w.alloc (.cells #[.slice Ac nc cc, .slice Al nl cl, .int .i64 r, .int .i64 b, .int .i64 p, .int .i64 f] 26)) := ⟨_, rfl⟩
  have X0 : Hid (Ext w W0) := by rw [hW0.out]; exact Ext.alloc w _
  have B0 : Hid (Blk W0 w.heap.size #[.slice Ac nc cc, .slice Al nl cl, .int .i64 r, .int .i64 b, .int .i64 p, .int .i64 f] 26) := by rw [hW0.out]; exact Blk.new rfl _ _
  obtain ⟨n, hn⟩ : ∃ n, Hid (xs.length = n) := ⟨_, rfl⟩
  rw [hn.out] at a1 hlen II IK ⊢
  go_enter Tryz.func20, Tryz.ntmps20
  go_wp2_with fail
  rw [← hW0.out]
  clear hW0
  refine (IC.out W0 X0.out).mono ?_
  rintro e w1 ⟨rfl, x1⟩
  have X1 := hide (X0.out.trans x1)
  have B1 := hide (B0.out.ext x1)
  have cB := B1.out.cell
  clear x1 IC X0 B0
  cases h1 : codeB d
  · have HF : Hid (F = (false, false)) := by show _ = _; rw [← hF.out]; simp [progLaw, h1]
    clear h1
    go_wp2
    go_ret2
    rw [HF.out]
    exact ⟨rfl, X1.out⟩
  · go_wp2_with fail
    refine (II.out w1 X1.out).mono ?_
    rintro e w2 ⟨rfl, x2⟩
    have X2 := hide (X1.out.trans x2)
    have B2 := hide (B1.out.ext x2)
    clear cB
    have cB := B2.out.cell
    clear x2 II B1 X1
    cases h2 : itemsB xs
    · have HF : Hid (F = (false, false)) := by show _ = _; rw [← hF.out]; simp [progLaw, h2]
      clear h1 h2
      go_wp2
      go_ret2
      rw [HF.out]
      exact ⟨rfl, X2.out⟩
    · have HF : Hid (F = (progB d xs, true)) := by show _ = _; rw [← hF.out]; simp [progLaw, h1, h2]
      clear h1 h2
      go_wp2_with fail
      refine (IK.out w2 X2.out).mono ?_
      rintro e w3 ⟨rfl, x3⟩
      have X3 := hide (X2.out.trans x3)
      clear x3
      go_wp2
      go_ret2
      rw [HF.out]
      exact ⟨rfl, X3.out⟩
end Go.Proofs.YtegoapdbpfhkiaaGreat
