/- Items as a kind; known items; UnitOf. -/
import Derived.Test.YtmckompikbechaaRH
namespace Go.Proofs.Ytmckompikbechaa
open Go.RowKit Go.Sort
set_option linter.unusedVariables false

def kIm : Kind ItD where
  rd w v d := ∃ vs, v = kdItem.val vs ∧ kdItem.rd w w.heap.size vs d
  fr w lo hi v d := ∃ vs fp, v = kdItem.val vs ∧ kdItem.own w vs d fp ∧ (∀ i ∈ fp, lo ≤ i ∧ i < hi)
  ok d := kdItem.wt d ≤ 1048576
  mrk _ d := d
  cnt _ := 0
  rd_ext := by
    rintro w w' v d ⟨vs, rfl, h⟩ hx
    exact ⟨vs, rfl, kdItem.rd_more (kdItem.rd_ext h hx (Nat.le_refl _)) hx.size⟩
  fr_rd := by
    rintro w lo hi v d ⟨vs, fp, rfl, h, _⟩
    exact ⟨vs, rfl, kdItem.own_rd h⟩
  fr_tch := by
    rintro w w' lo hi lo' hi' v d ⟨vs, fp, rfl, h, hf⟩ k hd
    refine ⟨vs, fp, rfl, kdItem.own_keep h (fun i hi' => k.block i (kdItem.own_lt h i hi') ?_), hf⟩
    have := hf i hi'
    omega
  ok_cnt := fun _ => Nat.zero_le _
def kIm.wt (d : ItD) : Nat := kdItem.wt d
theorem kIm.ok_of {d : ItD} (h : ¬ 1048576 < kIm.wt d) : kIm.ok d := Nat.le_of_not_lt h
theorem kIm.lr {w : World} {v : Value} {d : ItD} (h : kIm.rd w v d) : ∃ A c A' c', v = .agg #[.slice A d.1.length c, .slice A' d.2.1.length c', .bool d.2.2] ∧ LR kdS w w.heap.size A c d.1 ∧ LR kdInt w w.heap.size A' c' d.2.1 := by
  obtain ⟨vs, rfl, h⟩ := h
  obtain ⟨A, c, A', c', rfl, h1⟩ := kdItem.open_ h
  exact ⟨A, c, A', c', rfl, h1⟩
theorem kIm.shape {w : World} {v : Value} {d : ItD} (h : kIm.rd w v d) : ∃ A n c A' n' c' q, v = .agg #[.slice A n c, .slice A' n' c', .bool q] := by
  obtain ⟨A, c, A', c', rfl, _⟩ := kIm.lr h
  exact ⟨A, _, c, A', _, c', _, rfl⟩
theorem kIm.to : ToC Try.prog kIm 38 := by
  rintro w v d ⟨vs, rfl, h⟩ hn
  refine (kdItem.to_ _ _ d h hn).mono ?_
  rintro e w' ⟨vs', fp, rfl, ho, hf, hx⟩
  exact ⟨_, rfl, ⟨vs', fp, rfl, ho, fun i hi => ⟨hf i hi, kdItem.own_lt ho i hi⟩⟩, hx⟩
theorem kIm.eq : EqC Try.prog kIm 40 := by
  rintro w v v' d ⟨vs, rfl, h⟩ ⟨vs', rfl, h'⟩ hn
  exact kdItem.eq_ _ _ _ d h h' hn
theorem kIm.szL (w : World) (v : Value) (d : ItD) (l : Nat) (h : kIm.rd w v d) (h0 : 0 ≤ (l : Int)) (h1 : (l : Int) ≤ 1048576) : Calls Try.prog 36 #[v, .int .i64 l] w fun e w' => e = .returned (.int .i64 (if (kIm.wt d : Int) ≤ l then l - kIm.wt d else -1)) ∧ Ext w w' := by
  obtain ⟨vs, rfl, h⟩ := h
  exact kdItem.sz _ _ d _ h h0 h1
theorem LR.oneI {w : World} {B : Nat} {x : ItD} {A1 A2 : Option Addr} {c1 c2 : Nat} (h1 : LR kdS w B A1 c1 x.1) (h2 : LR kdInt w B A2 c2 x.2.1) (hB : B ≤ w.heap.size) (e : TypeId) :
    LR kdItem (w.alloc (.cells #[.slice A1 x.1.length c1, .slice A2 x.2.1.length c2, .bool x.2.2] e)) (w.heap.size + 1) (some ⟨w.heap.size, 0, none⟩) 1 [x] := by
  refine ⟨Nat.le_refl _, by omega, fun k y hk => ?_⟩
  cases k with
  | succ k => simp at hk
  | zero =>
    simp at hk
    subst hk
    have X := Ext.alloc w (.cells #[.slice A1 x.1.length c1, .slice A2 x.2.1.length c2, .bool x.2.2] e)
    refine ⟨w.heap.size, 0, [.slice A1 x.1.length c1, .slice A2 x.2.1.length c2, .bool x.2.2], rfl, by omega, kdItem.mk_ ((h1.ext X hB).more (by omega)) ((h2.ext X hB).more (by omega)), ?_⟩
    intro j u hj
    rcases j with _ | _ | _ | j
    · simp at hj; subst hj; simp [World.cell?_alloc_at]
    · simp at hj; subst hj; simp [World.cell?_alloc_at]
    · simp at hj; subst hj; simp [World.cell?_alloc_at]
    · simp at hj
theorem items_one (x : ItD) : itemsB [x] = itemB x := by simp [itemsB]
theorem known_one (els : List ElD) (x : ItD) : knownB els [x] = knownI els x := by simp [knownB]
def unitLaw (d : CoD) (x : ItD) : Int × Bool := if codeB d && itemB x && knownI d.1 x then (unitF d x, true) else (0, false)

set_option maxRecDepth 100000 in
set_option maxHeartbeats 1000000 in
theorem s.bsGood_m (w : World) (v : Value) (d : CoD) (A : Option Addr) (c B : Nat) (xs : List ItD) (h : kC.rd w v d) (hok : kC.ok d) (hi : LR kdItem w B A c xs) (hB : B ≤ w.heap.size) (hlen : xs.length ≤ 1048576) (hwt : ∀ (k : Nat) (x : ItD), xs[k]? = some x → kdItem.wt x ≤ 1048576) :
    Calls Try.prog 93 #[v, .slice A xs.length c] w fun e w' => e = .returned (.bool (codeB d && itemsB xs && knownB d.1 xs)) ∧ Ext w w' := by
  obtain ⟨Ac, nc, cc, Al, nl, cl, r, b, p, f, rfl⟩ := kC.shape h
  have IC := hide (fun (wq : World) (xq : Ext w wq) => s.cdGood_m wq _ d (kC.rd_ext h xq) hok)
  have II := hide (fun (wq : World) (xq : Ext w wq) => s.itList_wk wq A c B xs (hi.ext xq hB) (Nat.le_trans hB xq.size) hlen hwt)
  have IK := hide (fun (wq : World) (xq : Ext w wq) => s.bsKnows_m wq _ d A c B xs (kC.rd_ext h xq) hok (hi.ext xq hB) (Nat.le_trans hB xq.size) hlen hwt)
  clear h hi hwt
  obtain ⟨W0, hW0⟩ : ∃ W0, Hid (W0 = w.alloc (.cells #[.slice Ac nc cc, .slice Al nl cl, .int .i64 r, .int .i64 b, .int .i64 p, .int .i64 f] 59)) := ⟨_, rfl⟩
  have X0 : Hid (Ext w W0) := by rw [hW0.out]; exact Ext.alloc w _
  have B0 : Hid (Blk W0 w.heap.size #[.slice Ac nc cc, .slice Al nl cl, .int .i64 r, .int .i64 b, .int .i64 p, .int .i64 f] 59) := by rw [hW0.out]; exact Blk.new rfl _ _
  generalize xs.length = n at *
  obtain ⟨R, hR⟩ : ∃ R, Hid ((codeB d && itemsB xs && knownB d.1 xs) = R) := ⟨_, rfl⟩
  rw [hR.out]
  go_enter Try.func93, Try.ntmps93
  go_wp2_with fail
  rw [← hW0.out]
  clear hW0
  refine (IC.out W0 X0.out).mono ?_
  rintro e w1 ⟨rfl, x1⟩
  replace X0 := hide (X0.out.trans x1)
  replace B0 := hide (B0.out.ext x1)
  clear x1
  have c0_ := B0.out.cell
  cases hc : codeB d
  · have HF : Hid (R = false) := by show _ = _; rw [← hR.out, hc]; rfl
    clear hc
    go_wp2
    go_ret
    exact ⟨ret_bool HF.out.symm, X0.out⟩
  rw [hc, Bool.true_and] at hR
  clear hc
  go_wp2_with fail
  refine (II.out w1 X0.out).mono ?_
  rintro e w2 ⟨rfl, x1⟩
  replace X0 := hide (X0.out.trans x1)
  replace B0 := hide (B0.out.ext x1)
  clear x1 c0_
  have c0_ := B0.out.cell
  cases hi : itemsB xs
  · have HF : Hid (R = false) := by show _ = _; rw [← hR.out, hi]; rfl
    clear hi
    go_wp2
    go_ret
    exact ⟨ret_bool HF.out.symm, X0.out⟩
  rw [hi, Bool.true_and] at hR
  clear hi
  go_wp2_with fail
  refine (IK.out w2 X0.out).mono ?_
  rintro e w3 ⟨rfl, x1⟩
  clear c0_
  have XX := hide (X0.out.trans x1)
  clear x1
  go_wp2
  go_ret
  exact ⟨ret_bool hR.out, XX.out⟩
set_option maxRecDepth 100000 in
set_option maxHeartbeats 1000000 in
theorem i.areKnown_m (w : World) (v : Value) (d : CoD) (A : Option Addr) (c B : Nat) (xs : List ItD) (h : kC.rd w v d) (hok : kC.ok d) (hi : LR kdItem w B A c xs) (hB : B ≤ w.heap.size) (hlen : xs.length ≤ 1048576) (hwt : ∀ (k : Nat) (x : ItD), xs[k]? = some x → kdItem.wt x ≤ 1048576) :
    Calls Try.prog 105 #[v, .slice A xs.length c] w fun e w' => e = .returned (.bool (codeB d && itemsB xs && knownB d.1 xs)) ∧ Ext w w' := by
  obtain ⟨Ac, nc, cc, Al, nl, cl, r, b, p, f, rfl⟩ := kC.shape h
  have IC := hide (fun (wq : World) (xq : Ext w wq) => i.IsCode_m wq _ d (kC.rd_ext h xq) hok)
  have II := hide (fun (wq : World) (xq : Ext w wq) => i.AreItems_wk wq A c B xs (hi.ext xq hB) (Nat.le_trans hB xq.size) hlen hwt)
  have IK := hide (fun (wq : World) (xq : Ext w wq) => i.isKnown_m wq _ d A c B xs (kC.rd_ext h xq) hok (hi.ext xq hB) (Nat.le_trans hB xq.size) hlen hwt)
  clear h hi hwt
  obtain ⟨W0, hW0⟩ : ∃ W0, Hid (W0 = w.alloc (.cells #[.slice Ac nc cc, .slice Al nl cl, .int .i64 r, .int .i64 b, .int .i64 p, .int .i64 f] 59)) := ⟨_, rfl⟩
  have X0 : Hid (Ext w W0) := by rw [hW0.out]; exact Ext.alloc w _
  have B0 : Hid (Blk W0 w.heap.size #[.slice Ac nc cc, .slice Al nl cl, .int .i64 r, .int .i64 b, .int .i64 p, .int .i64 f] 59) := by rw [hW0.out]; exact Blk.new rfl _ _
  generalize xs.length = n at *
  obtain ⟨R, hR⟩ : ∃ R, Hid ((codeB d && itemsB xs && knownB d.1 xs) = R) := ⟨_, rfl⟩
  rw [hR.out]
  go_enter Try.func105, Try.ntmps105
  go_wp2_with fail
  rw [← hW0.out]
  clear hW0
  refine (IC.out W0 X0.out).mono ?_
  rintro e w1 ⟨rfl, x1⟩
  replace X0 := hide (X0.out.trans x1)
  replace B0 := hide (B0.out.ext x1)
  clear x1
  have c0_ := B0.out.cell
  cases hc : codeB d
  · have HF : Hid (R = false) := by show _ = _; rw [← hR.out, hc]; rfl
    clear hc
    go_wp2
    go_ret
    exact ⟨ret_bool HF.out.symm, X0.out⟩
  rw [hc, Bool.true_and] at hR
  clear hc
  go_wp2_with fail
  refine (II.out w1 X0.out).mono ?_
  rintro e w2 ⟨rfl, x1⟩
  replace X0 := hide (X0.out.trans x1)
  replace B0 := hide (B0.out.ext x1)
  clear x1 c0_
  have c0_ := B0.out.cell
  cases hi : itemsB xs
  · have HF : Hid (R = false) := by show _ = _; rw [← hR.out, hi]; rfl
    clear hi
    go_wp2
    go_ret
    exact ⟨ret_bool HF.out.symm, X0.out⟩
  rw [hi, Bool.true_and] at hR
  clear hi
  go_wp2_with fail
  refine (IK.out w2 X0.out).mono ?_
  rintro e w3 ⟨rfl, x1⟩
  clear c0_
  have XX := hide (X0.out.trans x1)
  clear x1
  go_wp2
  go_ret
  exact ⟨ret_bool hR.out, XX.out⟩

set_option maxRecDepth 100000 in
set_option maxHeartbeats 1000000 in
theorem i.isKnownItem_m (w : World) (v : Value) (d : CoD) (v' : Value) (x : ItD) (h : kC.rd w v d) (hok : kC.ok d) (hx : kIm.rd w v' x) (hok' : kIm.ok x) :
    Calls Try.prog 96 #[v, v'] w fun e w' => e = .returned (.bool (codeB d && itemB x && knownI d.1 x)) ∧ Ext w w' := by
  obtain ⟨Ac, nc, cc, Al, nl, cl, r, b, p, f, rfl⟩ := kC.shape h
  have HR := hide h
  have HV := hide hx
  obtain ⟨vs, rfl, hx2⟩ := hx
  obtain ⟨A1, c1, A2, c2, rfl, h1, h2⟩ := kdItem.open_ hx2
  rw [kdItem.val3] at HV ⊢
  have HX' := hide hx2
  have H1 := hide h1
  have H2 := hide h2
  clear h hx2 h1 h2
  obtain ⟨W0, hW0⟩ : ∃ W0, Hid (W0 = (w.alloc (.cells #[.slice Ac nc cc, .slice Al nl cl, .int .i64 r, .int .i64 b, .int .i64 p, .int .i64 f] 59)).alloc (.cells #[.slice A1 x.1.length c1, .slice A2 x.2.1.length c2, .bool x.2.2] 70)) := ⟨_, rfl⟩
  have X0 : Hid (Ext w W0) := by rw [hW0.out]; exact (Ext.alloc w _).trans (Ext.alloc _ _)
  have B0 : Hid (Blk W0 w.heap.size #[.slice Ac nc cc, .slice Al nl cl, .int .i64 r, .int .i64 b, .int .i64 p, .int .i64 f] 59) := by rw [hW0.out]; exact (Blk.new rfl _ _).alloc _
  have B1 : Hid (Blk W0 (w.heap.size + 1) #[.slice A1 x.1.length c1, .slice A2 x.2.1.length c2, .bool x.2.2] 70) := by rw [hW0.out]; exact Blk.new (by simp) _ _
  have IC := hide (fun (wq : World) (xq : Ext w wq) => i.IsCode_m wq _ d (kC.rd_ext HR.out xq) hok)
  have II := hide (fun (wq : World) (xq : Ext w wq) => i.IsItem_any wq _ x (kdItem.rd_more (kdItem.rd_ext HX'.out xq (Nat.le_refl _)) xq.size) hok')
  have IK := hide (fun (wq : World) (xq : Ext w wq) => i.isKnown_m (wq.alloc (.cells #[.slice A1 x.1.length c1, .slice A2 x.2.1.length c2, .bool x.2.2] 70)) _ d (some ⟨wq.heap.size, 0, none⟩) 1 (wq.heap.size + 1) [x] (kC.rd_ext HR.out (xq.trans (Ext.alloc _ _))) hok (LR.oneI (H1.out.ext xq (Nat.le_refl _)) (H2.out.ext xq (Nat.le_refl _)) xq.size _) (by simp) (by simp) (fun k y hk => by
    cases k with
    | succ k => simp at hk
    | zero => simp at hk; subst hk; exact hok'))
  rw [known_one] at IK
  rw [kdItem.val3] at II
  generalize x.1.length = m at *
  generalize x.2.1.length = m2 at *
  generalize x.2.2 = q at *
  obtain ⟨R, hR⟩ : ∃ R, Hid ((codeB d && itemB x && knownI d.1 x) = R) := ⟨_, rfl⟩
  rw [hR.out]
  go_enter Try.func96, Try.ntmps96
  go_wp2_with fail
  rw [← hW0.out]
  clear hW0
  refine (IC.out W0 X0.out).mono ?_
  rintro e w1 ⟨rfl, x1⟩
  replace X0 := hide (X0.out.trans x1)
  replace B0 := hide (B0.out.ext x1)
  replace B1 := hide (B1.out.ext x1)
  clear x1
  have c0_ := B0.out.cell; have c1_ := B1.out.cell
  cases hc : codeB d
  · have HF : Hid (R = false) := by show _ = _; rw [← hR.out, hc]; rfl
    clear hc
    go_wp2
    go_ret
    exact ⟨ret_bool HF.out.symm, X0.out⟩
  rw [hc, Bool.true_and] at hR
  clear hc
  go_wp2_with fail
  refine (II.out w1 X0.out).mono ?_
  rintro e w2 ⟨rfl, x1⟩
  replace X0 := hide (X0.out.trans x1)
  replace B0 := hide (B0.out.ext x1)
  replace B1 := hide (B1.out.ext x1)
  clear x1 c0_ c1_
  have c0_ := B0.out.cell; have c1_ := B1.out.cell
  cases hi : itemB x
  · have HF : Hid (R = false) := by show _ = _; rw [← hR.out, hi]; rfl
    clear hi
    go_wp2
    go_ret
    exact ⟨ret_bool HF.out.symm, X0.out⟩
  rw [hi, Bool.true_and] at hR
  clear hi
  go_wp2_with fail
  refine (IK.out w2 X0.out).mono ?_
  rintro e w3 ⟨rfl, x1⟩
  clear c0_ c1_
  have XX := hide ((X0.out.trans (Ext.alloc _ _)).trans x1)
  clear x1
  go_wp2
  go_ret
  exact ⟨ret_bool hR.out, XX.out⟩

set_option maxRecDepth 100000 in
set_option maxHeartbeats 1000000 in
theorem i.UnitOf_law (w : World) (v v' : Value) (d : CoD) (x : ItD) (h : kC.rd w v d) (hok : kC.ok d) (hx : kIm.rd w v' x) (hok' : kIm.ok x) :
    Calls Try.prog 39 #[v, v'] w fun e w' => e = .returned (.tuple #[.int .i64 (unitLaw d x).1, .bool (unitLaw d x).2]) ∧ Ext w w' := by
  obtain ⟨Ac, nc, cc, Al, nl, cl, r, b, p, f, rfl⟩ := kC.shape h
  have HR := hide h
  have HV := hide hx
  obtain ⟨vs, rfl, hx2⟩ := hx
  obtain ⟨A1, c1, A2, c2, rfl, h1, h2⟩ := kdItem.open_ hx2
  rw [kdItem.val3] at HV ⊢
  have HX' := hide hx2
  have H1 := hide h1
  have H2 := hide h2
  clear h hx2 h1 h2
  obtain ⟨W0, hW0⟩ : ∃ W0, Hid (W0 = (w.alloc (.cells #[.slice Ac nc cc, .slice Al nl cl, .int .i64 r, .int .i64 b, .int .i64 p, .int .i64 f] 59)).alloc (.cells #[.slice A1 x.1.length c1, .slice A2 x.2.1.length c2, .bool x.2.2] 70)) := ⟨_, rfl⟩
  have X0 : Hid (Ext w W0) := by rw [hW0.out]; exact (Ext.alloc w _).trans (Ext.alloc _ _)
  have B0 : Hid (Blk W0 w.heap.size #[.slice Ac nc cc, .slice Al nl cl, .int .i64 r, .int .i64 b, .int .i64 p, .int .i64 f] 59) := by rw [hW0.out]; exact (Blk.new rfl _ _).alloc _
  have B1 : Hid (Blk W0 (w.heap.size + 1) #[.slice A1 x.1.length c1, .slice A2 x.2.1.length c2, .bool x.2.2] 70) := by rw [hW0.out]; exact Blk.new (by simp) _ _
  have GD := hide (fun (wq : World) (xq : Ext w wq) => i.isKnownItem_m wq _ d _ x (kC.rd_ext HR.out xq) hok (kIm.rd_ext HV.out xq) hok')
  obtain ⟨F, hF⟩ : ∃ F, Hid (unitLaw d x = F) := ⟨_, rfl⟩
  rw [hF.out]
  have UN : Hid (codeB d = true → itemB x = true → knownI d.1 x = true → ∀ (wq : World), Ext w wq → Calls Try.prog 97 #[.agg #[.slice Ac nc cc, .slice Al nl cl, .int .i64 r, .int .i64 b, .int .i64 p, .int .i64 f], .agg #[.slice A1 x.1.length c1, .slice A2 x.2.1.length c2, .bool x.2.2]] wq fun e w' => e = .returned (.int .i64 (unitF d x)) ∧ Ext wq w') := fun q1 q2 q3 wq xq => i.unitOf_m wq _ d _ x (kC.rd_ext HR.out xq) hok (codeB_ok q1) (kdItem.rd_more (kdItem.rd_ext HX'.out xq (Nat.le_refl _)) xq.size) (itOk q2 q3)
  generalize x.1.length = m at *
  generalize x.2.1.length = m2 at *
  generalize x.2.2 = q at *
  have ZZ : Hid (W0.heap.size = w.heap.size + 1 + 1) := by show _ = _; rw [hW0.out]; simp
  go_enter Try.func39, Try.ntmps39
  go_wp2_with fail
  rw [← hW0.out]
  clear hW0
  (with_reducible refine (GD.out W0 X0.out).mono ?_)
  rintro e w1 ⟨rfl, x1⟩
  replace X0 := hide (X0.out.trans x1)
  replace B0 := hide (B0.out.ext x1)
  replace B1 := hide (B1.out.ext x1)
  clear x1
  have c0_ := B0.out.cell; have c1_ := B1.out.cell
  cases hg : (codeB d && itemB x && knownI d.1 x)
  · have HF : Hid (F = (0, false)) := by show _ = _; rw [← hF.out]; simp [unitLaw, hg]
    clear hg
    go_wp2
    go_ret2
    rw [HF.out]
    exact ⟨rfl, X0.out⟩
  · have HF : Hid (F = (unitF d x, true)) := by show _ = _; rw [← hF.out]; simp [unitLaw, hg]
    simp only [Bool.and_eq_true] at hg
    have UQ := hide (UN.out hg.1.1 hg.1.2 hg.2 w1 X0.out)
    clear hg
    go_wp2_with fail
    refine UQ.out.mono ?_
    rintro e w2 ⟨rfl, x1⟩
    replace X0 := hide (X0.out.trans x1)
    clear x1 c0_ c1_
    go_wp2
    go_ret2
    rw [HF.out]
    exact ⟨rfl, X0.out⟩

set_option maxRecDepth 100000 in
set_option maxHeartbeats 1000000 in
theorem s.UnitOf_law (w : World) (v v' : Value) (d : CoD) (x : ItD) (h : kC.rd w v d) (hok : kC.ok d) (hx : kIm.rd w v' x) (hok' : kIm.ok x) :
    Calls Try.prog 37 #[v, v'] w fun e w' => e = .returned (.tuple #[.int .i64 (unitLaw d x).1, .bool (unitLaw d x).2]) ∧ Ext w w' := by
  obtain ⟨Ac, nc, cc, Al, nl, cl, r, b, p, f, rfl⟩ := kC.shape h
  have HR := hide h
  have HV := hide hx
  obtain ⟨vs, rfl, hx2⟩ := hx
  obtain ⟨A1, c1, A2, c2, rfl, h1, h2⟩ := kdItem.open_ hx2
  rw [kdItem.val3] at HV ⊢
  have HX' := hide hx2
  have H1 := hide h1
  have H2 := hide h2
  clear h hx2 h1 h2
  obtain ⟨W0, hW0⟩ : ∃ W0, Hid (W0 = (w.alloc (.cells #[.slice Ac nc cc, .slice Al nl cl, .int .i64 r, .int .i64 b, .int .i64 p, .int .i64 f] 59)).alloc (.cells #[.slice A1 x.1.length c1, .slice A2 x.2.1.length c2, .bool x.2.2] 70)) := ⟨_, rfl⟩
  have X0 : Hid (Ext w W0) := by rw [hW0.out]; exact (Ext.alloc w _).trans (Ext.alloc _ _)
  have B0 : Hid (Blk W0 w.heap.size #[.slice Ac nc cc, .slice Al nl cl, .int .i64 r, .int .i64 b, .int .i64 p, .int .i64 f] 59) := by rw [hW0.out]; exact (Blk.new rfl _ _).alloc _
  have B1 : Hid (Blk W0 (w.heap.size + 1) #[.slice A1 x.1.length c1, .slice A2 x.2.1.length c2, .bool x.2.2] 70) := by rw [hW0.out]; exact Blk.new (by simp) _ _
  have GD := hide (fun (wq : World) (xq : Ext w wq) => s.bsGood_m (wq.alloc (.cells #[.slice A1 x.1.length c1, .slice A2 x.2.1.length c2, .bool x.2.2] 70)) _ d (some ⟨wq.heap.size, 0, none⟩) 1 (wq.heap.size + 1) [x] (kC.rd_ext HR.out (xq.trans (Ext.alloc _ _))) hok (LR.oneI (H1.out.ext xq (Nat.le_refl _)) (H2.out.ext xq (Nat.le_refl _)) xq.size _) (by simp) (by simp) (fun k y hk => by
    cases k with
    | succ k => simp at hk
    | zero => simp at hk; subst hk; exact hok'))
  rw [known_one, items_one] at GD
  obtain ⟨F, hF⟩ : ∃ F, Hid (unitLaw d x = F) := ⟨_, rfl⟩
  rw [hF.out]
  have UN : Hid (codeB d = true → itemB x = true → knownI d.1 x = true → ∀ (wq : World), Ext w wq → Calls Try.prog 94 #[.agg #[.slice Ac nc cc, .slice Al nl cl, .int .i64 r, .int .i64 b, .int .i64 p, .int .i64 f], .agg #[.slice A1 x.1.length c1, .slice A2 x.2.1.length c2, .bool x.2.2]] wq fun e w' => e = .returned (.int .i64 (unitF d x)) ∧ Ext wq w') := fun q1 q2 q3 wq xq => s.elUnit_m wq _ d _ x (kC.rd_ext HR.out xq) hok (codeB_ok q1) (kdItem.rd_more (kdItem.rd_ext HX'.out xq (Nat.le_refl _)) xq.size) (itOk q2 q3)
  generalize x.1.length = m at *
  generalize x.2.1.length = m2 at *
  generalize x.2.2 = q at *
  have ZZ : Hid (W0.heap.size = w.heap.size + 1 + 1) := by show _ = _; rw [hW0.out]; simp
  go_enter Try.func37, Try.ntmps37
  go_wp2_with fail
  rw [← hW0.out]
  clear hW0
  have GQ := GD.out W0 X0.out
  rw [ZZ.out] at GQ
  (with_reducible refine (show Calls _ _ #[.agg #[.slice Ac nc cc, .slice Al nl cl, .int .i64 r, .int .i64 b, .int .i64 p, .int .i64 f], .slice (some ⟨w.heap.size + 1 + 1, 0, none⟩) 1 1] _ _ from GQ).mono ?_)
  rintro e w1 ⟨rfl, x1⟩
  replace x1 := (Ext.alloc W0 _).trans x1
  replace X0 := hide (X0.out.trans x1)
  replace B0 := hide (B0.out.ext x1)
  replace B1 := hide (B1.out.ext x1)
  clear x1
  have c0_ := B0.out.cell; have c1_ := B1.out.cell
  cases hg : (codeB d && itemB x && knownI d.1 x)
  · have HF : Hid (F = (0, false)) := by show _ = _; rw [← hF.out]; simp [unitLaw, hg]
    clear hg
    go_wp2
    go_ret2
    rw [HF.out]
    exact ⟨rfl, X0.out⟩
  · have HF : Hid (F = (unitF d x, true)) := by show _ = _; rw [← hF.out]; simp [unitLaw, hg]
    simp only [Bool.and_eq_true] at hg
    have UQ := hide (UN.out hg.1.1 hg.1.2 hg.2 w1 X0.out)
    clear hg
    go_wp2_with fail
    refine UQ.out.mono ?_
    rintro e w2 ⟨rfl, x1⟩
    replace X0 := hide (X0.out.trans x1)
    clear x1 c0_ c1_
    go_wp2
    go_ret2
    rw [HF.out]
    exact ⟨rfl, X0.out⟩
end Go.Proofs.Ytmckompikbechaa
