/- BestSingles and SinglesBase: the laws' sides. -/
import Derived.Test.YtcnpbaldnhfebaaBG
import Derived.Test.YtcnpbaldnhfebaaGW
namespace Go.Proofs.Ytcnpbaldnhfebaa
open Go.RowKit Go.Sort
set_option linter.unusedVariables false

theorem i.BestSingles_law (w : World) (v : Value) (d : CoD) (n : Int) (h : kC.rd w v d) (hok : kC.ok d) (_hn : InR n) :
    Calls Try.prog 16 #[v, .int .i64 n] w fun e w' => ∃ v0, e = .returned (.tuple #[v0, .bool (sngF d n).2]) ∧ kIt.fr w' w.heap.size w'.heap.size v0 (sngF d n).1 ∧ kIt.ok (sngF d n).1 ∧ Ext w w' :=
  (i.BestSingles_m w v d n h hok).mono fun _ _ ⟨A, c, fp, he, o, hf, x⟩ => ⟨_, he, kIt.ofOwn o hf rfl, sngF_ok d n, x⟩

set_option maxRecDepth 100000 in
set_option maxHeartbeats 2000000 in
theorem s.BestSingles_law (w : World) (v : Value) (d : CoD) (n : Int) (h : kC.rd w v d) (hok : kC.ok d) (_hn : InR n) :
    Calls Try.prog 15 #[v, .int .i64 n] w fun e w' => ∃ v0, e = .returned (.tuple #[v0, .bool (sngF d n).2]) ∧ kIt.fr w' w.heap.size w'.heap.size v0 (sngF d n).1 ∧ kIt.ok (sngF d n).1 ∧ Ext w w' := by
  have OK := sngF_ok d n
  obtain ⟨Ac, nc, cc, Al, nl, cl, r, b, p, f, rfl⟩ := kC.shape h
  obtain ⟨W0, hW0⟩ : ∃ W0, Hid (W0 = w.alloc (.cells #[.slice Ac nc cc, .slice Al nl cl, .int .i64 r, .int .i64 b, .int .i64 p, .int .i64 f] 31)) := ⟨_, rfl⟩
  have X0 : Hid (Ext w W0) := by rw [hW0.out]; exact Ext.alloc w _
  have PN := hide (s.pnSingles_m W0 _ d n (kC.rd_ext h X0.out) hok)
  have zz := X0.out.size
  clear h hok
  obtain ⟨F, hF⟩ : ∃ F, Hid (sngF d n = F) := ⟨_, rfl⟩
  rw [hF.out] at PN OK ⊢
  go_enter Try.func15, Try.ntmps15
  go_wp2_with fail
  rw [← hW0.out]
  clear hW0
  refine PN.out.mono ?_
  rintro e w1 ⟨A1, c1, fp1, rfl, o1, f1, x1⟩
  have O1 := hide o1
  have F1 := hide f1
  have X1 := hide (X0.out.trans x1)
  clear o1 x1 f1 PN
  go_wp2
  go_ret2
  exact ⟨_, rfl, kIt.ofOwn O1.out (fun i hi => Nat.le_trans zz (F1.out i hi)) rfl, OK, X1.out⟩

theorem sngF_ls {d : CoD} {n : Int} (h : (sngF d n).2 = true) : codeB d = true ∧ LsOk d (sngF d n).1 := by
  unfold sngF at h ⊢
  split at h
  · rename_i hb
    rw [if_pos hb]
    obtain ⟨hc, n1, n2, _, l⟩ := bestF_yes hb
    refine ⟨hc, ?_, fun k x hx => ?_⟩
    · show (orderL d _).length ≤ 14
      rw [orderL_len, List.length_map, bestN_len]
      omega
    · have hm : x ∈ orderL d ((bestN d n.toNat).map (snI d)) := List.mem_of_getElem? hx
      unfold orderL lateL at hm
      obtain ⟨i, hi, rfl⟩ := List.mem_map.1 hm
      rw [List.mem_range] at hi
      have hy : (sortS (ltF d) (((bestN d n.toNat).map (snI d)).map earlyD)).getD i noItem ∈ sortS (ltF d) (((bestN d n.toNat).map (snI d)).map earlyD) := by
        rw [List.getD_eq_getElem?_getD, List.getElem?_eq_getElem hi]
        exact List.getElem_mem hi
      have h2 := sortS_mem _ hy
      obtain ⟨y, hy1, hy2⟩ := List.mem_map.1 h2
      obtain ⟨j, hj, rfl⟩ := List.mem_map.1 hy1
      have h3 := itOk_early (snI_ok hc (bestN_lt j hj))
      rw [hy2] at h3
      exact ⟨h3.n1, h3.n3, h3.ml, h3.kn⟩
  · cases h
/-- The bases of the best single programme, added up. -/
def sbF (d : CoD) (n : Int) : Int × Bool := if (sngF d n).2 = true then ((basesF d (sngF d n).1).sum, true) else (0, false)

set_option maxRecDepth 100000 in
set_option maxHeartbeats 2000000 in
theorem s.SinglesBase_law (w : World) (v : Value) (d : CoD) (n : Int) (h : kC.rd w v d) (hok : kC.ok d) (_hn : InR n) :
    Calls Try.prog 20 #[v, .int .i64 n] w fun e w' => e = .returned (.tuple #[.int .i64 (sbF d n).1, .bool (sbF d n).2]) ∧ Ext w w' := by
  obtain ⟨Ac, nc, cc, Al, nl, cl, r, b, p, f, rfl⟩ := kC.shape h
  obtain ⟨W0, hW0⟩ : ∃ W0, Hid (W0 = w.alloc (.cells #[.slice Ac nc cc, .slice Al nl cl, .int .i64 r, .int .i64 b, .int .i64 p, .int .i64 f] 31)) := ⟨_, rfl⟩
  have X0 : Hid (Ext w W0) := by rw [hW0.out]; exact Ext.alloc w _
  have B0 : Hid (Blk W0 w.heap.size #[.slice Ac nc cc, .slice Al nl cl, .int .i64 r, .int .i64 b, .int .i64 p, .int .i64 f] 31) := by rw [hW0.out]; exact Blk.new rfl _ _
  have PN := hide (s.pnSingles_m W0 _ d n (kC.rd_ext h X0.out) hok)
  have PB := hide (fun (hd : CodeOk d) (hl : LsOk d (sngF d n).1) (wq : World) (xq : Ext w wq) (A : Option Addr) (c : Nat) (hi : LR kdItem wq wq.heap.size A c (sngF d n).1) => s.pnBase_m wq _ d A c wq.heap.size _ (kC.rd_ext h xq) hok hi (Nat.le_refl _) hd hl)
  obtain ⟨F, hF⟩ : ∃ F, Hid (sbF d n = F) := ⟨_, rfl⟩
  rw [hF.out]
  clear h hok
  go_enter Try.func20, Try.ntmps20
  go_wp2_with fail
  rw [← hW0.out]
  clear hW0
  refine PN.out.mono ?_
  rintro e w1 ⟨A1, c1, fp1, rfl, o1, f1, x1⟩
  have O1 := hide o1.rd
  have X1 := hide (X0.out.trans x1)
  have B1 := hide (B0.out.ext x1)
  clear o1 x1 f1 PN
  cases hb : (sngF d n).2
  · have HF : Hid (F = (0, false)) := by show _ = _; rw [← hF.out]; unfold sbF; rw [hb]; rfl
    clear hb
    go_wp2
    go_ret2
    rw [HF.out]
    exact ⟨rfl, X1.out⟩
  obtain ⟨hc, hl⟩ := sngF_ls hb
  have PQ := hide (PB.out (codeB_ok hc) hl w1 X1.out A1 c1 O1.out)
  have HF : Hid (F = ((basesF d (sngF d n).1).sum, true)) := by show _ = _; rw [← hF.out]; unfold sbF; rw [if_pos hb]
  clear hb hc hl PB hF
  generalize (basesF d (sngF d n).1).sum = S at *
  generalize (sngF d n).1.length = m at *
  have cB := B1.out.cell
  go_wp2_with (go_at_call 40; refine PQ.out.mono ?_; rintro e w2 ⟨rfl, x2⟩)
  go_ret2
  rw [HF.out]
  exact ⟨rfl, X1.out.trans x2⟩

set_option maxRecDepth 100000 in
set_option maxHeartbeats 2000000 in
theorem i.SinglesBase_law (w : World) (v : Value) (d : CoD) (n : Int) (h : kC.rd w v d) (hok : kC.ok d) (_hn : InR n) :
    Calls Try.prog 21 #[v, .int .i64 n] w fun e w' => e = .returned (.tuple #[.int .i64 (sbF d n).1, .bool (sbF d n).2]) ∧ Ext w w' := by
  obtain ⟨Ac, nc, cc, Al, nl, cl, r, b, p, f, rfl⟩ := kC.shape h
  obtain ⟨W0, hW0⟩ : ∃ W0, Hid (W0 = w.alloc (.cells #[.slice Ac nc cc, .slice Al nl cl, .int .i64 r, .int .i64 b, .int .i64 p, .int .i64 f] 31)) := ⟨_, rfl⟩
  have X0 : Hid (Ext w W0) := by rw [hW0.out]; exact Ext.alloc w _
  have B0 : Hid (Blk W0 w.heap.size #[.slice Ac nc cc, .slice Al nl cl, .int .i64 r, .int .i64 b, .int .i64 p, .int .i64 f] 31) := by rw [hW0.out]; exact Blk.new rfl _ _
  have PN := hide (i.BestSingles_m W0 _ d n (kC.rd_ext h X0.out) hok)
  have PB := hide (fun (hd : CodeOk d) (hl : LsOk d (sngF d n).1) (wq : World) (xq : Ext w wq) (A : Option Addr) (c : Nat) (hi : LR kdItem wq wq.heap.size A c (sngF d n).1) => i.baseValues_m wq _ d A c wq.heap.size _ (kC.rd_ext h xq) hok hd hi (Nat.le_refl _) hl)
  obtain ⟨F, hF⟩ : ∃ F, Hid (sbF d n = F) := ⟨_, rfl⟩
  rw [hF.out]
  clear h hok
  go_enter Try.func21, Try.ntmps21
  go_wp2_with fail
  rw [← hW0.out]
  clear hW0
  refine PN.out.mono ?_
  rintro e w1 ⟨A1, c1, fp1, rfl, o1, f1, x1⟩
  have O1 := hide o1.rd
  have X1 := hide (X0.out.trans x1)
  have B1 := hide (B0.out.ext x1)
  clear o1 x1 f1 PN
  cases hb : (sngF d n).2
  · have HF : Hid (F = (0, false)) := by show _ = _; rw [← hF.out]; unfold sbF; rw [hb]; rfl
    clear hb
    go_wp2
    go_ret2
    rw [HF.out]
    exact ⟨rfl, X1.out⟩
  obtain ⟨hc, hl⟩ := sngF_ls hb
  have PQ := hide (PB.out (codeB_ok hc) hl w1 X1.out A1 c1 O1.out)
  have SM := hide (bases_small (codeB_ok hc) hl)
  have l14 := hl.n
  have HF : Hid (F = ((basesF d (sngF d n).1).sum, true)) := by show _ = _; rw [← hF.out]; unfold sbF; rw [if_pos hb]
  clear hb hc hl PB hF
  generalize basesF d (sngF d n).1 = BF at *
  generalize (sngF d n).1.length = m at *
  have QO := hide (fun (A9 : Option Addr) (c9 : Nat) (wq : World) (lo : Nat) (h9 : OwnI 3 wq lo A9 m c9 BF) => i.sumInts_any A9 m c9 wq.heap.size _ wq h9.sl (by omega) SM.out)
  have cB := B1.out.cell
  go_wp2_with (first | (go_at_call 41; refine (QO.out A2 c2 w2 _ o2).mono ?_; rintro e w3 ⟨rfl, rfl⟩) | (go_at_call 42; refine PQ.out.mono ?_; rintro e w2 ⟨A2, c2, rfl, o2, x2⟩))
  go_ret2
  rw [HF.out]
  exact ⟨rfl, X1.out.trans x2⟩
end Go.Proofs.Ytcnpbaldnhfebaa
