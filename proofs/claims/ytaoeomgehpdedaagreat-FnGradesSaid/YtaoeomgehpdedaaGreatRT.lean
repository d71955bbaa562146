/- ColumnOf. -/
import Derived.Test.YtaoeomgehpdedaaGreatRO
import Derived.Test.YtaoeomgehpdedaaGreatRL
namespace Go.Proofs.YtaoeomgehpdedaaGreat
open Go.RowKit Go.Sort
set_option linter.unusedVariables false

def colAt (d : CoD) (xs : List ItD) (m : MD) (j k : Nat) : Int := baseF d xs k + pointF d xs k [(gradesAt m k).getD j 0]
def colN (d : CoD) (xs : List ItD) (m : MD) (j n : Nat) : List Int := (List.range n).map (colAt d xs m j)
theorem colN_succ (d : CoD) (xs : List ItD) (m : MD) (j k : Nat) : colN d xs m j (k + 1) = colN d xs m j k ++ [colAt d xs m j k] := by simp [colN, List.range_succ]
theorem colN_len (d : CoD) (xs : List ItD) (m : MD) (j k : Nat) : (colN d xs m j k).length = k := by simp [colN]
def columnF (d : CoD) (xs : List ItD) (m : MD) (q : Int) : List Int × Bool := if judgedB d xs m && inB 0 ((judges m : Int) - 1) q then (colN d xs m q.toNat xs.length, true) else ([], false)
theorem point3 (d : CoD) (xs : List ItD) (k : Nat) (g : Int) : pointF d xs k [g, g, g] = pointF d xs k [g] := by
  unfold pointF
  have e1 : trimF [g, g, g] = (3 * g, 3) := by simp [trimF]; omega
  have e2 : trimF [g] = (g, 1) := by simp [trimF]
  rw [e1, e2]
  split
  · rfl
  · unfold roundP roundI
    dsimp only
    rw [Int.mul_assoc]
    generalize g * unitF d (xs.getD k noItem) = t
    omega
theorem good1 {x : List Int} {j : Nat} (h : goodMarks x = true) (hj : j < x.length) : goodMarks [x.getD j 0] = true := by
  have h1 := (good_ok h).2.2.1 (x.getD j 0) (by rw [List.getD_eq_getElem?_getD, List.getElem?_eq_getElem hj]; exact List.getElem_mem hj)
  simp [goodMarks, inB]
  simp at h1
  omega
theorem good3c {x : List Int} {j : Nat} (h : goodMarks x = true) (hj : j < x.length) : goodMarks [x.getD j 0, x.getD j 0, x.getD j 0] = true := by
  have h1 := (good_ok h).2.2.1 (x.getD j 0) (by rw [List.getD_eq_getElem?_getD, List.getElem?_eq_getElem hj]; exact List.getElem_mem hj)
  simp [goodMarks, inB]
  simp at h1
  omega
theorem SlI.one_dr (w : World) (z : Int) (e : TypeId) : SlI (w.alloc (.cells #[.int .i64 z] e)).drew (w.heap.size + 1) (some ⟨w.heap.size, 0, none⟩) 1 [z] := Sl.one w (.int .i64 z) e
/-- Three new cells. -/
theorem SlI.threeC (w : World) (g : Int) (e : TypeId) : SlI (w.alloc (.cells #[.int .i64 g, .int .i64 g, .int .i64 g] e)) (w.heap.size + 1) (some ⟨w.heap.size, 0, none⟩) 3 [g, g, g] := by
  refine ⟨rfl, fun _ => ⟨w.heap.size, 0, rfl, by omega, fun k u hu => ?_⟩⟩
  rcases k with _ | _ | _ | k
  · simp at hu; subst hu; simp [World.cell?_alloc_at]
  · simp at hu; subst hu; simp [World.cell?_alloc_at]
  · simp at hu; subst hu; simp [World.cell?_alloc_at]
  · simp at hu
theorem SlI.threeC_dr (w : World) (g : Int) (e : TypeId) {w5 : World} (x : Ext (w.alloc (.cells #[.int .i64 g, .int .i64 g, .int .i64 g] e)).drew w5) : SlI w5 (w.heap.size + 1) (some ⟨w.heap.size, 0, none⟩) 3 [g, g, g] := by
  have h : SlI (w.alloc (.cells #[.int .i64 g, .int .i64 g, .int .i64 g] e)).drew (w.heap.size + 1) (some ⟨w.heap.size, 0, none⟩) 3 [g, g, g] := SlI.threeC w g e
  exact h.ext x (by simp)
theorem le_alloc {a : Nat} {w : World} (o : Obj) (h : a ≤ w.heap.size) : a ≤ (w.alloc o).heap.size := by simp; omega

set_option maxRecDepth 100000 in
set_option maxHeartbeats 4000000 in
theorem s.ColumnOf_law (w : World) (v v1 v2 : Value) (d : CoD) (xs : List ItD) (m : MD) (q : Int) (h : kC.rd w v d) (hok : kC.ok d) (hx : kIt.rd w v1 xs) (hox : kIt.ok xs) (hm : kM.rd w v2 m) (hom : kM.ok m) (hq : InR q) :
    Calls Tryz.prog 26 #[v, v1, v2, .int .i64 q] w fun e w' => ∃ v0, e = .returned (.tuple #[v0, .bool (columnF d xs m q).2]) ∧ kI.fr w' w.heap.size w'.heap.size v0 (columnF d xs m q).1 ∧ kI.ok (columnF d xs m q).1 ∧ Ext w w' := by
  obtain ⟨Ac, nc, cc, Al, nl, cl, r, b, p, f, rfl⟩ := kC.shape h
  obtain ⟨A, c, rfl, hl⟩ := kIt.lr hx
  obtain ⟨Am, nm, cm, Am', nm', cm', rfl⟩ := kM.shape hm
  have HR := hide h
  have HX := hide hx
  have HM := hide hm
  have a1 := hl.1; have a2 := hl.2.1
  have n1 := kIt.ok_len hox
  obtain ⟨W0, hW0⟩ : ∃ W0, Hid (W0 = (w.alloc (.cells #[.slice Ac nc cc, .slice Al nl cl, .int .i64 r, .int .i64 b, .int .i64 p, .int .i64 f] 26)).alloc (.cells #[.slice Am nm cm, .slice Am' nm' cm'] 30)) := ⟨_, rfl⟩
  have X0 : Hid (Ext w W0) := by rw [hW0.out]; exact (Ext.alloc w _).trans (Ext.alloc _ _)
  have B0 : Hid (Blk W0 w.heap.size #[.slice Ac nc cc, .slice Al nl cl, .int .i64 r, .int .i64 b, .int .i64 p, .int .i64 f] 26) := by rw [hW0.out]; exact (Blk.new rfl _ _).alloc _
  have B1 : Hid (Blk W0 (w.heap.size + 1) #[.slice Am nm cm, .slice Am' nm' cm'] 30) := by rw [hW0.out]; exact Blk.new (by simp) _ _
  have HJ := hide (fun (wq : World) (xq : Ext w wq) => s.elGood_m wq _ _ _ d xs m (kC.rd_ext HR.out xq) hok (kIt.rd_ext HX.out xq) hox (kM.rd_ext HM.out xq) hom)
  obtain ⟨F, hF⟩ : ∃ F, Hid (columnF d xs m q = F) := ⟨_, rfl⟩
  rw [hF.out]
  have HL := hide hl
  have MH := hide (fun (wq : World) (xq : Ext w wq) => s.mkHas_m wq _ m q (kM.rd_ext HM.out xq) hom)
  clear h hx hm hl
  obtain ⟨n, hn⟩ : ∃ n, Hid (xs.length = n) := ⟨_, rfl⟩
  rw [hn.out] at HJ n1 a1 ⊢
  go_enter Tryz.func26, Tryz.ntmps26
  go_wp2_with fail
  rw [← hW0.out]
  clear hW0
  refine (HJ.out _ X0.out).mono ?_
  rintro e w1 ⟨rfl, x1⟩
  replace X0 := hide (X0.out.trans x1)
  replace B0 := hide (B0.out.ext x1)
  replace B1 := hide (B1.out.ext x1)
  clear x1
  have c0_ := B0.out.cell; have c1_ := B1.out.cell
  cases hh : judgedB d xs m
  · have HF : Hid (F = ([], false)) := by show _ = _; rw [← hF.out]; simp [columnF, hh]
    clear hh
    go_wp2
    go_ret2
    rw [HF.out]
    exact ⟨_, rfl, kI_nil _ _ _ (Nat.le_refl _), Nat.zero_le _, X0.out⟩
  have hj := jOk hh
  have JO := hide hj
  have h14 := hj.ls.n
  rw [hn.out] at h14
  obtain ⟨Bm, dm, Bm', dm', hveq, hm1, hm2⟩ := kM.lr HM.out
  simp only [Value.agg.injEq, Array.mk.injEq, List.cons.injEq, Value.slice.injEq, and_true] at hveq
  obtain ⟨⟨rfl, hnm, rfl⟩, rfl, hnm', rfl⟩ := hveq
  have b1 := hm1.1; have b2 := hm1.2.1
  have HM1 := hide hm1
  have HM2 := hide hm2
  have ln := hj.ln
  rw [hn.out] at ln
  have NM := hide hnm
  have NM' := hide hnm'
  rw [← hnm] at b1 ln
  have r3 := (marksB_ok hj.mr).2.1
  have nln : nm ≤ n ∧ n ≤ nm := by omega
  have jb := (marksB_ok hj.mr).2.2.2.1
  have jb3 := (marksB_ok hj.mr).2.2.1
  clear hj hm1 hm2 hnm hnm' ln
  obtain ⟨J, hJ⟩ : ∃ J, Hid (judges m = J) := ⟨_, rfl⟩
  rw [hJ.out] at jb jb3
  have MHE : Hid (hasJudge m q = inB 0 ((J : Int) - 1) q) := by show _ = _; unfold hasJudge; rw [JO.out.mr, hJ.out]; rfl
  have MQ := hide (MH.out w1 X0.out)
  rw [MHE.out] at MQ
  go_wp2_with fail
  clear c0_ c1_
  refine MQ.out.mono ?_
  rintro e w2 ⟨rfl, x1⟩
  replace X0 := hide (X0.out.trans x1)
  replace B0 := hide (B0.out.ext x1)
  replace B1 := hide (B1.out.ext x1)
  clear x1
  have c0_ := B0.out.cell; have c1_ := B1.out.cell
  cases hin : inB 0 ((J : Int) - 1) q
  · have HF : Hid (F = ([], false)) := by show _ = _; rw [← hF.out]; simp [columnF, hJ.out, hin]
    clear hh hin
    go_wp2
    go_ret2
    rw [HF.out]
    exact ⟨_, rfl, kI_nil _ _ _ (Nat.le_refl _), Nat.zero_le _, X0.out⟩
  obtain ⟨j, hqj, hjJ⟩ : ∃ j : Nat, q = j ∧ j < J := by
    have h2 := hin
    simp only [inB, Bool.and_eq_true, decide_eq_true_eq] at h2
    exact ⟨q.toNat, by omega, by omega⟩
  subst hqj
  have HF : Hid (F = (colN d xs m j n, true)) := by show _ = _; rw [← hF.out, ← hn.out]; simp [columnF, hh, hJ.out, hin]
  clear hh hF
  clear hin
  have cm0 := c1_ 0
  go_wp2
  clear c0_ c1_ cm0
  go_loopw [10, 27] (fun o i wr => ∃ (k : Nat) (A' : Option Addr) (c' : Nat), k ≤ nm ∧ i = .int .i64 k ∧ o = .slice A' k c' ∧ OwnI 3 wr w2.heap.size A' k c' (colN d xs m j k) ∧ Ext w2 wr) (fun _ i _ => nm - (intOf i).toNat)
  case atStart => exact ⟨0, none, 0, Nat.zero_le _, rfl, rfl, OwnI.nil, Ext.refl _⟩
  case round =>
    obtain ⟨k, A', c', hk, rfl, rfl, hown, hx⟩ := hrel
    have HO := hide hown
    have HXX := hide hx
    have oc1 := hown.capn; have oc2 := hown.capm
    clear hown hx
    by_cases hlt : k < nm
    · have hkx : k < xs.length := by rw [hn.out]; omega
      obtain ⟨g, hgr, hge, hgg⟩ := JO.out.grades hkx
      have XW := hide (X0.out.trans HXX.out)
      obtain ⟨bm, om, Ak, ck, rfl, hbm, rc, rr⟩ := HM1.out.row XW.out (Nat.le_refl _) hgr.out
      have gl : j < g.length := by
        have h8 := (marksB_ok JO.out.mr).2.2.2.2.1 g (List.mem_of_getElem? hgr.out)
        rw [h8.1, hJ.out]; exact hjJ
      have gl9 := (good_ok hgg).2.1
      have cap := rr.1; have cap2 := rr.2.1
      obtain ⟨z, hz⟩ : ∃ z, Hid (g[j]? = some z) := get_ex g j gl
      obtain ⟨bk, ok9, rfl, hbk, zc⟩ := rr.intAt j z hz.out
      have CA : Hid (colAt d xs m j k = baseF d xs k + pointF d xs k [z]) := by show _ = _; unfold colAt; rw [hge, getD_some hz.out]
      have hg1 : goodMarks [z] = true := by have := good1 hgg gl; rwa [getD_some hz.out] at this
      have TK := hide (colN_succ d xs m j k)
      have EO := hide (fun (wq : World) (xq : Ext wr wq) (B : Nat) (G : Option Addr) (hB : B ≤ wq.heap.size) (hwB : w.heap.size ≤ B) (hs : SlI wq B G 1 [z]) => s.elOf_m wq _ d A c B xs k G 1 1 [z] (kC.rd_ext HR.out (XW.out.trans xq)) hok JO.out.co ((HL.out.ext (XW.out.trans xq) (Nat.le_refl _)).more hwB) hB JO.out.ls hkx hs hg1)
      rw [← CA.out, hn.out] at EO
      have SF : Hid (∀ w', Ext w2 w' → (∀ i, w'.cell? ⟨w.heap.size, i, none⟩ = #[Value.slice Ac nc cc, .slice Al nl cl, .int .i64 r, .int .i64 b, .int .i64 p, .int .i64 f][i]?) ∧ w'.cell? ⟨bk, ok9 + j, none⟩ = some (.int .i64 z)) := fun w' xq => by
        refine ⟨(B0.out.ext xq).cell, ?_⟩
        have hbw : bk < w.heap.size := hbk
        exact (xq.cell (p := ⟨bk, ok9 + j, none⟩) (by have := X0.out.size; show bk < _; omega)).trans ((HXX.out.cell (p := ⟨bk, ok9 + j, none⟩) (by have := X0.out.size; show bk < _; omega)).symm.trans zc)
      have d1 : (k + 1) * 8 ≤ 140737488355328 := by omega
      have d2 : k + 1 ≤ 4611686018427387904 := by omega
      have zw := XW.out.size
      have zq := HXX.out.size
      generalize colAt d xs m j k = Z at *
      clear rr zc hge
      generalize g.length = gn at *
      have i1 : (j : Int) < gn := by omega
      go_wp2
      clear rc
      obtain ⟨c0_, c2_⟩ := SF.out wr HXX.out
      have e1_ : wr.heap.size + 1 ≤ ((wr.alloc (.cells #[.int .i64 z] 3)).drew).heap.size := by simp
      have e2_ : w.heap.size ≤ wr.heap.size + 1 := by omega
      go_region_held3 (fun w' => (∀ i, w'.cell? ⟨w.heap.size, i, none⟩ = #[Value.slice Ac nc cc, .slice Al nl cl, .int .i64 r, .int .i64 b, .int .i64 p, .int .i64 f][i]?) ∧ w'.cell? ⟨bk, ok9 + j, none⟩ = some (.int .i64 z))
        (first | exact SF.out _ Y9.out | exact SF.out _ (Y5.out.trans (Ext.alloc w5 _)) | exact SF.out _ Y5.out | exact SF.out _ ((HXX.out.trans (Ext.alloc wr _)).trans (Ext.drew _)) | exact SF.out _ (HXX.out.trans (Ext.alloc wr _)) | exact SF.out _ ((HXX.out.trans (Ext.drew wr)).trans (Ext.alloc _ _)) | exact SF.out _ (HXX.out.trans (Ext.drew wr)))
        (first
        | (refine step_append_sl (by rfl) (.tmp 32) (.tmp 42) (by rfl) elem_int (by rfl) (by rfl) (lo := w2.heap.size) (Own.alloc O5.out (.cells #[.int .i64 Z] 3)) (Sl.one w5 (.int .i64 Z) 3) (one_int _) d1 d2 h5 ?_; intro A9 c9 w9 hap; have Y9 := hide (hap.ext (Y5.out.trans (Ext.alloc w5 _)) O5.out.fromLo); have HAP := hide hap; clear hap)
        | (go_at_call 63; (with_reducible refine (EO.out _ ((Ext.alloc wr _).trans (Ext.drew _)) (wr.heap.size + 1) _ e1_ e2_ (SlI.one_dr wr z 3)).mono ?_); rintro e w5 ⟨rfl, x5⟩; have X5 := hide (((Ext.alloc wr _).trans (Ext.drew _)).trans x5); have Y5 := hide (HXX.out.trans X5.out); have O5 : Hid (OwnI 3 w5 w2.heap.size A' k c' (colN d xs m j k)) := HO.out.below X5.out (Nat.le_refl _); have y5 := Y5.out.size; have h5 := le_alloc (.cells #[.int .i64 Z] 3) y5; clear x5 y5))
      go_wp2
      go_roundw
      case rel => exact ⟨k + 1, A9, c9, by omega, by go_num, rfl, own_conv HAP.out.own (Nat.le_refl _) rfl (by rw [TK.out, List.map_append]; rfl), Y9.out⟩
      case measure => simp [intOf]; omega
    · have ek : nm = k := by omega
      have en : k = n := by omega
      subst ek
      go_wp2
      go_ret2
      rw [HF.out]
      rw [en] at HO
      have z0 := X0.out.size
      exact ⟨_, rfl, by rw [en]; exact kI_of (OwnI.lower HO.out z0), by show (colN d xs m j n).length ≤ _; rw [colN_len]; omega, X0.out.trans HXX.out⟩
end Go.Proofs.YtaoeomgehpdedaaGreat
