/- What the laws on bases call: one item, one element; the laws' own small functions. -/
import Derived.Test.YtcngiipdffjkfaaEN
import Derived.Deep.RegionLaw
namespace Go.Proofs.Ytcngiipdffjkfaa
open Go.RowKit Go.Sort
set_option linter.unusedVariables false

set_option maxRecDepth 100000 in
set_option maxHeartbeats 1000000 in
theorem i.hasKnown_v (w : World) (v : Value) (d : CoD) (A : Option Addr) (c : Nat) (xs : List ItD) (k : Nat) (h : kC.rd w v d) (hok : kC.ok d) (hl : LR kdItem w w.heap.size A c xs) (hw : wtL kdItem xs ≤ 1048576) (hg : goodB d xs = true) (hk : k < xs.length) :
    Calls Try.prog 40 #[v, .slice A xs.length c, .int .i64 k] w fun e w' => e = .returned (.bool true) ∧ Ext w w' := by
  obtain ⟨Ac, nc, cc, Al, nl, cl, r, b, p, f, rfl⟩ := kC.shape h
  have ho := goodB_ls hg
  have h14 := ho.n
  have a1 := hl.1; have a2 := hl.2.1
  have hwt : ∀ (i : Nat) (x : ItD), xs[i]? = some x → kdItem.wt x ≤ 1048576 := fun i x hx => Nat.le_trans (wtL_at kdItem xs i x hx) hw
  have JJ := hide (fun (wq : World) (xq : Ext w wq) => i.areKnown_m wq _ d A c w.heap.size xs (kC.rd_ext h xq) hok (hl.ext xq (Nat.le_refl _)) xq.size (by omega) hwt)
  have hg' : Hid ((codeB d && itemsB xs && knownB d.1 xs) = true) := hg
  rw [hg'.out] at JJ
  obtain ⟨W0, hW0⟩ : ∃ W0, Hid (W0 = w.alloc (.cells #[.slice Ac nc cc, .slice Al nl cl, .int .i64 r, .int .i64 b, .int .i64 p, .int .i64 f] 27)) := ⟨_, rfl⟩
  have X0 : Hid (Ext w W0) := by rw [hW0.out]; exact Ext.alloc w _
  clear h hl hwt hg ho
  obtain ⟨n, hn⟩ : ∃ n, Hid (xs.length = n) := ⟨_, rfl⟩
  rw [hn.out] at a1 h14 hk JJ ⊢
  have hin : inB 0 ((n : Int) - 1) (k : Int) = true := by unfold inB; simp; omega
  go_enter Try.func40, Try.ntmps40
  go_wp2_with (go_at_call 57; refine (i.within_any _ _ _ _).mono ?_; rintro e w' ⟨rfl, rfl⟩)
  rw [← hW0.out]
  clear hW0
  refine (JJ.out _ X0.out).mono ?_
  rintro e w1 ⟨rfl, x1⟩
  have X1 := hide (X0.out.trans x1)
  clear x1
  go_wp2
  go_ret
  exact ⟨rfl, X1.out⟩
set_option maxRecDepth 100000 in
set_option maxHeartbeats 1000000 in
theorem s.bsHas_v (w : World) (v : Value) (d : CoD) (A : Option Addr) (c : Nat) (xs : List ItD) (k : Nat) (h : kC.rd w v d) (hok : kC.ok d) (hl : LR kdItem w w.heap.size A c xs) (hw : wtL kdItem xs ≤ 1048576) (hg : goodB d xs = true) (hk : k < xs.length) :
    Calls Try.prog 43 #[v, .slice A xs.length c, .int .i64 k] w fun e w' => e = .returned (.bool true) ∧ Ext w w' := by
  obtain ⟨Ac, nc, cc, Al, nl, cl, r, b, p, f, rfl⟩ := kC.shape h
  have ho := goodB_ls hg
  have h14 := ho.n
  have a1 := hl.1; have a2 := hl.2.1
  have hwt : ∀ (i : Nat) (x : ItD), xs[i]? = some x → kdItem.wt x ≤ 1048576 := fun i x hx => Nat.le_trans (wtL_at kdItem xs i x hx) hw
  have JJ := hide (fun (wq : World) (xq : Ext w wq) => s.bsGood_m wq _ d A c w.heap.size xs (kC.rd_ext h xq) hok (hl.ext xq (Nat.le_refl _)) xq.size (by omega) hwt)
  have hg' : Hid ((codeB d && itemsB xs && knownB d.1 xs) = true) := hg
  rw [hg'.out] at JJ
  obtain ⟨W0, hW0⟩ : ∃ W0, Hid (W0 = w.alloc (.cells #[.slice Ac nc cc, .slice Al nl cl, .int .i64 r, .int .i64 b, .int .i64 p, .int .i64 f] 27)) := ⟨_, rfl⟩
  have X0 : Hid (Ext w W0) := by rw [hW0.out]; exact Ext.alloc w _
  clear h hl hwt hg ho
  obtain ⟨n, hn⟩ : ∃ n, Hid (xs.length = n) := ⟨_, rfl⟩
  rw [hn.out] at a1 h14 hk JJ ⊢
  have hin : inB 0 ((n : Int) - 1) (k : Int) = true := by unfold inB; simp; omega
  go_enter Try.func43, Try.ntmps43
  go_wp2_with fail
  rw [← hW0.out]
  clear hW0
  refine (JJ.out _ X0.out).mono ?_
  rintro e w1 ⟨rfl, x1⟩
  have X1 := hide (X0.out.trans x1)
  clear x1
  go_wp2_with (go_at_call 53; refine (s.l1In_any _ _ _ _).mono ?_; rintro e w' ⟨rfl, rfl⟩)
  go_ret
  exact ⟨rfl, X1.out⟩
set_option maxRecDepth 100000 in
set_option maxHeartbeats 1000000 in
theorem i.ItemBase_v (w : World) (v : Value) (d : CoD) (A : Option Addr) (c : Nat) (xs : List ItD) (k : Nat) (h : kC.rd w v d) (hok : kC.ok d) (hl : LR kdItem w w.heap.size A c xs) (hw : wtL kdItem xs ≤ 1048576) (hg : goodB d xs = true) (hk : k < xs.length) :
    Calls Try.prog 17 #[v, .slice A xs.length c, .int .i64 k] w fun e w' => e = .returned (.tuple #[.int .i64 (baseF d xs k), .bool true]) ∧ Ext w w' := by
  obtain ⟨Ac, nc, cc, Al, nl, cl, r, b, p, f, rfl⟩ := kC.shape h
  have GD := hide (fun (wq : World) (xq : Ext w wq) => i.hasKnown_v wq _ d A c xs k (kC.rd_ext h xq) hok ((hl.ext xq (Nat.le_refl _)).more xq.size) hw hg hk)
  have BV := hide (fun (wq : World) (xq : Ext w wq) => i.itemBase_m wq _ d A c w.heap.size xs k (kC.rd_ext h xq) hok (goodB_code hg) (hl.ext xq (Nat.le_refl _)) xq.size (goodB_ls hg) hk)
  clear h hl hg
  generalize baseF d xs k = R at *
  obtain ⟨n, hn⟩ : ∃ n, Hid (xs.length = n) := ⟨_, rfl⟩
  rw [hn.out] at hk GD BV ⊢
  obtain ⟨W0, hW0⟩ : ∃ W0, Hid (W0 = w.alloc (.cells #[.slice Ac nc cc, .slice Al nl cl, .int .i64 r, .int .i64 b, .int .i64 p, .int .i64 f] 27)) := ⟨_, rfl⟩
  have X0 : Hid (Ext w W0) := by rw [hW0.out]; exact Ext.alloc w _
  have B0 : Hid (Blk W0 w.heap.size #[.slice Ac nc cc, .slice Al nl cl, .int .i64 r, .int .i64 b, .int .i64 p, .int .i64 f] 27) := by rw [hW0.out]; exact Blk.new rfl _ _
  go_enter Try.func17, Try.ntmps17
  go_wp2_with fail
  rw [← hW0.out]
  clear hW0
  refine (GD.out W0 X0.out).mono ?_
  rintro e w1 ⟨rfl, x1⟩
  have X1 := hide (X0.out.trans x1)
  have cB := (B0.out.ext x1).cell
  clear x1 GD X0 B0
  go_wp2_with fail
  refine (BV.out w1 X1.out).mono ?_
  rintro e w2 ⟨rfl, x2⟩
  have X2 := hide (X1.out.trans x2)
  clear x2 cB
  go_wp2
  go_ret2
  exact ⟨rfl, X2.out⟩
set_option maxRecDepth 100000 in
set_option maxHeartbeats 1000000 in
theorem i.RepeatsOf_v (w : World) (v : Value) (d : CoD) (A : Option Addr) (c : Nat) (xs : List ItD) (k : Nat) (h : kC.rd w v d) (hok : kC.ok d) (hl : LR kdItem w w.heap.size A c xs) (hw : wtL kdItem xs ≤ 1048576) (hg : goodB d xs = true) (hk : k < xs.length) :
    Calls Try.prog 18 #[v, .slice A xs.length c, .int .i64 k] w fun e w' => e = .returned (.tuple #[.int .i64 (repF xs k : Nat), .bool true]) ∧ Ext w w' := by
  obtain ⟨Ac, nc, cc, Al, nl, cl, r, b, p, f, rfl⟩ := kC.shape h
  have GD := hide (fun (wq : World) (xq : Ext w wq) => i.hasKnown_v wq _ d A c xs k (kC.rd_ext h xq) hok ((hl.ext xq (Nat.le_refl _)).more xq.size) hw hg hk)
  have BV := hide (fun (wq : World) (xq : Ext w wq) => i.repeatsOf_m wq A c w.heap.size xs k d (hl.ext xq (Nat.le_refl _)) xq.size hk (goodB_ls hg))
  clear h hl hg
  generalize repF xs k = R at *
  obtain ⟨n, hn⟩ : ∃ n, Hid (xs.length = n) := ⟨_, rfl⟩
  rw [hn.out] at hk GD BV ⊢
  obtain ⟨W0, hW0⟩ : ∃ W0, Hid (W0 = w.alloc (.cells #[.slice Ac nc cc, .slice Al nl cl, .int .i64 r, .int .i64 b, .int .i64 p, .int .i64 f] 27)) := ⟨_, rfl⟩
  have X0 : Hid (Ext w W0) := by rw [hW0.out]; exact Ext.alloc w _
  go_enter Try.func18, Try.ntmps18
  go_wp2_with fail
  rw [← hW0.out]
  clear hW0
  refine (GD.out W0 X0.out).mono ?_
  rintro e w1 ⟨rfl, x1⟩
  have X1 := hide (X0.out.trans x1)
  clear x1 GD X0
  go_wp2_with fail
  refine (BV.out w1 X1.out).mono ?_
  rintro e w2 ⟨rfl, x2⟩
  have X2 := hide (X1.out.trans x2)
  clear x2
  go_wp2
  go_ret2
  exact ⟨rfl, X2.out⟩

set_option maxRecDepth 100000 in
set_option maxHeartbeats 1000000 in
theorem s.RepeatsOf_v (w : World) (v : Value) (d : CoD) (A : Option Addr) (c : Nat) (xs : List ItD) (k : Nat) (h : kC.rd w v d) (hok : kC.ok d) (hl : LR kdItem w w.heap.size A c xs) (hw : wtL kdItem xs ≤ 1048576) (hg : goodB d xs = true) (hk : k < xs.length) :
    Calls Try.prog 19 #[v, .slice A xs.length c, .int .i64 k] w fun e w' => e = .returned (.tuple #[.int .i64 (repF xs k : Nat), .bool true]) ∧ Ext w w' := by
  obtain ⟨Ac, nc, cc, Al, nl, cl, r, b, p, f, rfl⟩ := kC.shape h
  have GD := hide (fun (wq : World) (xq : Ext w wq) => s.bsHas_v wq _ d A c xs k (kC.rd_ext h xq) hok ((hl.ext xq (Nat.le_refl _)).more xq.size) hw hg hk)
  have BV := hide (fun (wq : World) (xq : Ext w wq) => s.bsRepeats_m wq A c w.heap.size xs k d (hl.ext xq (Nat.le_refl _)) xq.size hk (goodB_ls hg))
  clear h hl hg
  generalize repF xs k = R at *
  obtain ⟨n, hn⟩ : ∃ n, Hid (xs.length = n) := ⟨_, rfl⟩
  rw [hn.out] at hk GD BV ⊢
  obtain ⟨W0, hW0⟩ : ∃ W0, Hid (W0 = w.alloc (.cells #[.slice Ac nc cc, .slice Al nl cl, .int .i64 r, .int .i64 b, .int .i64 p, .int .i64 f] 27)) := ⟨_, rfl⟩
  have X0 : Hid (Ext w W0) := by rw [hW0.out]; exact Ext.alloc w _
  go_enter Try.func19, Try.ntmps19
  go_wp2_with fail
  rw [← hW0.out]
  clear hW0
  refine (GD.out W0 X0.out).mono ?_
  rintro e w1 ⟨rfl, x1⟩
  have X1 := hide (X0.out.trans x1)
  clear x1 GD X0
  go_wp2_with fail
  refine (BV.out w1 X1.out).mono ?_
  rintro e w2 ⟨rfl, x2⟩
  have X2 := hide (X1.out.trans x2)
  clear x2
  go_wp2
  go_ret2
  exact ⟨rfl, X2.out⟩
set_option maxRecDepth 100000 in
set_option maxHeartbeats 1000000 in
theorem i.isKnownItem_k (w : World) (v : Value) (d : CoD) (v' : Value) (x : ItD) (h : kC.rd w v d) (hok : kC.ok d) (hx : kIm.rd w v' x) (hok' : kIm.ok x) :
    Calls Try.prog 45 #[v, v'] w fun e w' => e = .returned (.bool (codeB d && itemB x && knownI d.1 x)) ∧ Ext w w' := by
  obtain ⟨Ac, nc, cc, Al, nl, cl, r, b, p, f, rfl⟩ := kC.shape h
  have HR := hide h
  have HV := hide hx
  obtain ⟨vs, rfl, hx2⟩ := hx
  obtain ⟨A1, c1, A2, c2, rfl, h1, h2⟩ := kdItem.open_ hx2
  rw [kdItem.val3] at HV ⊢
  have HX' := hide hx2
  have H1 := hide h1
  have H2 := hide h2
  clear h hx2 h1 h2
  obtain ⟨W0, hW0⟩ : ∃ W0, Hid (W0 = (w.alloc (.cells #[.slice Ac nc cc, .slice Al nl cl, .int .i64 r, .int .i64 b, .int .i64 p, .int .i64 f] 27)).alloc (.cells #[.slice A1 x.1.length c1, .slice A2 x.2.1.length c2, .bool x.2.2] 43)) := ⟨_, rfl⟩
  have X0 : Hid (Ext w W0) := by rw [hW0.out]; exact (Ext.alloc w _).trans (Ext.alloc _ _)
  have B0 : Hid (Blk W0 w.heap.size #[.slice Ac nc cc, .slice Al nl cl, .int .i64 r, .int .i64 b, .int .i64 p, .int .i64 f] 27) := by rw [hW0.out]; exact (Blk.new rfl _ _).alloc _
  have B1 : Hid (Blk W0 (w.heap.size + 1) #[.slice A1 x.1.length c1, .slice A2 x.2.1.length c2, .bool x.2.2] 43) := by rw [hW0.out]; exact Blk.new (by simp) _ _
  have IC := hide (fun (wq : World) (xq : Ext w wq) => i.IsCode_m wq _ d (kC.rd_ext HR.out xq) hok)
  have II := hide (fun (wq : World) (xq : Ext w wq) => i.IsItem_any wq _ x (kdItem.rd_more (kdItem.rd_ext HX'.out xq (Nat.le_refl _)) xq.size) hok')
  have IK := hide (fun (wq : World) (xq : Ext w wq) => i.isKnown_m (wq.alloc (.cells #[.slice A1 x.1.length c1, .slice A2 x.2.1.length c2, .bool x.2.2] 43)) _ d (some ⟨wq.heap.size, 0, none⟩) 1 (wq.heap.size + 1) [x] (kC.rd_ext HR.out (xq.trans (Ext.alloc _ _))) hok (LR.oneI (H1.out.ext xq (Nat.le_refl _)) (H2.out.ext xq (Nat.le_refl _)) xq.size _) (by simp) (by simp) (fun k y hk => by
    cases k with
    | succ k => simp at hk
    | zero => simp at hk; subst hk; exact hok'))
  rw [known_one] at IK
  rw [kdItem.val3] at II
  generalize x.1.length = m at *
  generalize x.2.1.length = m2 at *
  generalize x.2.2 = q at *
  obtain ⟨R, hR⟩ : ∃ R, Hid ((codeB d && itemB x && knownI d.1 x) = R) := ⟨_, rfl⟩
  rw [hR.out]
  go_enter Try.func45, Try.ntmps45
  go_wp2_with fail
  rw [← hW0.out]
  clear hW0
  refine (IC.out W0 X0.out).mono ?_
  rintro e w1 ⟨rfl, x1⟩
  replace X0 := hide (X0.out.trans x1)
  replace B0 := hide (B0.out.ext x1)
  replace B1 := hide (B1.out.ext x1)
  clear x1
  have c0_ := B0.out.cell; have c1_ := B1.out.cell
  cases hc : codeB d
  · have HF : Hid (R = false) := by show _ = _; rw [← hR.out, hc]; rfl
    clear hc
    go_wp2
    go_ret
    exact ⟨ret_bool HF.out.symm, X0.out⟩
  rw [hc, Bool.true_and] at hR
  clear hc
  go_wp2_with fail
  refine (II.out w1 X0.out).mono ?_
  rintro e w2 ⟨rfl, x1⟩
  replace X0 := hide (X0.out.trans x1)
  replace B0 := hide (B0.out.ext x1)
  replace B1 := hide (B1.out.ext x1)
  clear x1 c0_ c1_
  have c0_ := B0.out.cell; have c1_ := B1.out.cell
  cases hi : itemB x
  · have HF : Hid (R = false) := by show _ = _; rw [← hR.out, hi]; rfl
    clear hi
    go_wp2
    go_ret
    exact ⟨ret_bool HF.out.symm, X0.out⟩
  rw [hi, Bool.true_and] at hR
  clear hi
  go_wp2_with fail
  refine (IK.out w2 X0.out).mono ?_
  rintro e w3 ⟨rfl, x1⟩
  clear c0_ c1_
  have XX := hide ((X0.out.trans (Ext.alloc _ _)).trans x1)
  clear x1
  go_wp2
  go_ret
  exact ⟨ret_bool hR.out, XX.out⟩
set_option maxRecDepth 100000 in
set_option maxHeartbeats 1000000 in
theorem i.FullBase_v (w : World) (v v' : Value) (d : CoD) (x : ItD) (h : kC.rd w v d) (hok : kC.ok d) (hx : kIm.rd w v' x) (hox : kIm.ok x) (hg : (codeB d && itemB x && knownI d.1 x) = true) :
    Calls Try.prog 20 #[v, v'] w fun e w' => e = .returned (.tuple #[.int .i64 (fullF d x), .bool true]) ∧ Ext w w' := by
  obtain ⟨Ac, nc, cc, Al, nl, cl, r, b, p, f, rfl⟩ := kC.shape h
  obtain ⟨vs, rfl, hx2⟩ := hx
  obtain ⟨A1, c1, A2, c2, rfl, h1, h2⟩ := kdItem.open_ hx2
  have hg2 := hg
  simp only [Bool.and_eq_true] at hg2
  have GD := hide (fun (wq : World) (xq : Ext w wq) => i.isKnownItem_k wq _ d _ x (kC.rd_ext h xq) hok (kIm.rd_ext (show kIm.rd w _ x from ⟨_, rfl, hx2⟩) xq) hox)
  rw [hg] at GD
  have FB := hide (fun (wq : World) (xq : Ext w wq) => i.fullBase_m wq _ d _ x (kC.rd_ext h xq) hok (codeB_ok hg2.1.1) (kdItem.rd_more (kdItem.rd_ext hx2 xq (Nat.le_refl _)) xq.size) (itOk hg2.1.2 hg2.2))
  rw [kdItem.val3] at GD FB ⊢
  clear h hx2 h1 h2 hg hg2
  generalize fullF d x = R at *
  generalize x.1.length = n1 at *
  generalize x.2.1.length = n2 at *
  generalize x.2.2 = q at *
  obtain ⟨W0, hW0⟩ : ∃ W0, Hid (W0 = (w.alloc (.cells #[.slice Ac nc cc, .slice Al nl cl, .int .i64 r, .int .i64 b, .int .i64 p, .int .i64 f] 27)).alloc (.cells #[.slice A1 n1 c1, .slice A2 n2 c2, .bool q] 43)) := ⟨_, rfl⟩
  have X0 : Hid (Ext w W0) := by rw [hW0.out]; exact (Ext.alloc w _).trans (Ext.alloc _ _)
  have B0 : Hid (Blk W0 w.heap.size #[.slice Ac nc cc, .slice Al nl cl, .int .i64 r, .int .i64 b, .int .i64 p, .int .i64 f] 27) := by rw [hW0.out]; exact (Blk.new rfl _ _).alloc _
  have B1 : Hid (Blk W0 (w.heap.size + 1) #[.slice A1 n1 c1, .slice A2 n2 c2, .bool q] 43) := by rw [hW0.out]; exact Blk.new (by simp) _ _
  go_enter Try.func20, Try.ntmps20
  go_wp2_with fail
  rw [← hW0.out]
  clear hW0
  refine (GD.out W0 X0.out).mono ?_
  rintro e w1 ⟨rfl, x1⟩
  have X1 := hide (X0.out.trans x1)
  have cB := (B0.out.ext x1).cell
  have cC := (B1.out.ext x1).cell
  clear x1 GD X0 B0 B1
  go_wp2_with fail
  refine (FB.out w1 X1.out).mono ?_
  rintro e w2 ⟨rfl, x2⟩
  have X2 := hide (X1.out.trans x2)
  clear x2 cB cC
  go_wp2
  go_ret2
  exact ⟨rfl, X2.out⟩
end Go.Proofs.Ytcngiipdffjkfaa
