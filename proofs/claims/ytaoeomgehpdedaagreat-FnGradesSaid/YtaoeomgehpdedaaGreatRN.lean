/- Judged lists: valid ones, points for grades, scores. -/
import Derived.Test.YtaoeomgehpdedaaGreatRK
import Derived.Test.YtaoeomgehpdedaaGreatGM
import Derived.Test.YtaoeomgehpdedaaGreatGA
namespace Go.Proofs.YtaoeomgehpdedaaGreat
open Go.RowKit Go.Sort
set_option linter.unusedVariables false

def belongB (d : CoD) (xs : List ItD) (m : MD) : Bool := knownB d.1 xs && areMarksF m (xs.length : Int)
def judgedB (d : CoD) (xs : List ItD) (m : MD) : Bool := codeB d && itemsB xs && knownB d.1 xs && areMarksF m (xs.length : Int)
theorem kIt.ok_len {xs : List ItD} (h : kIt.ok xs) : xs.length ≤ 1048576 := Nat.le_trans (wtL_len kdItem xs) h
theorem kIt.ok_at {xs : List ItD} (h : kIt.ok xs) : ∀ (k : Nat) (x : ItD), xs[k]? = some x → kdItem.wt x ≤ 1048576 := fun k x hk => Nat.le_trans (wtL_at kdItem xs k x hk) h
/-- What a judged list is. -/
structure JOk (d : CoD) (xs : List ItD) (m : MD) : Prop where
  co : CodeOk d
  ls : LsOk d xs
  mr : marksB m = true
  ln : m.1.length = xs.length
theorem jOk {d : CoD} {xs : List ItD} {m : MD} (h : judgedB d xs m = true) : JOk d xs m := by
  simp only [judgedB, areMarksF, Bool.and_eq_true, beq_iff_eq] at h
  obtain ⟨⟨⟨h1, h2⟩, h3⟩, h4, h5⟩ := h
  exact ⟨codeB_ok h1, lsOk h2 h3, h4, by omega⟩
/-- A row of grades can be trimmed. -/
theorem JOk.row {d : CoD} {xs : List ItD} {m : MD} (h : JOk d xs m) {k : Nat} {x : List Int} (hx : m.1[k]? = some x) : goodMarks x = true := by
  have r := marksB_ok h.mr
  obtain ⟨h1, h2⟩ := r.2.2.2.2.1 x (List.mem_of_getElem? hx)
  simp only [goodMarks, inB, Bool.and_eq_true, decide_eq_true_eq, List.all_eq_true]
  refine ⟨by omega, fun z hz => ?_⟩
  have := h2 z hz
  omega

set_option maxRecDepth 100000 in
set_option maxHeartbeats 2000000 in
theorem i.belong_m (w : World) (v v1 v2 : Value) (d : CoD) (xs : List ItD) (m : MD) (h : kC.rd w v d) (hok : kC.ok d) (hx : kIt.rd w v1 xs) (hox : kIt.ok xs) (hm : kM.rd w v2 m) (hom : kM.ok m) :
    Calls Tryz.prog 44 #[v, v1, v2] w fun e w' => e = .returned (.bool (belongB d xs m)) ∧ Ext w w' := by
  obtain ⟨Ac, nc, cc, Al, nl, cl, r, b, p, f, rfl⟩ := kC.shape h
  obtain ⟨A, c, rfl, hl⟩ := kIt.lr hx
  obtain ⟨Am, nm, cm, Am', nm', cm', rfl⟩ := kM.shape hm
  have HR := hide h
  have HX := hide hx
  have HM := hide hm
  have a1 := hl.1; have a2 := hl.2.1
  have n1 := kIt.ok_len hox
  obtain ⟨W0, hW0⟩ : ∃ W0, Hid (W0 = (w.alloc (.cells #[.slice Ac nc cc, .slice Al nl cl, .int .i64 r, .int .i64 b, .int .i64 p, .int .i64 f] 26)).alloc (.cells #[.slice Am nm cm, .slice Am' nm' cm'] 30)) := ⟨_, rfl⟩
  have X0 : Hid (Ext w W0) := by rw [hW0.out]; exact (Ext.alloc w _).trans (Ext.alloc _ _)
  have B0 : Hid (Blk W0 w.heap.size #[.slice Ac nc cc, .slice Al nl cl, .int .i64 r, .int .i64 b, .int .i64 p, .int .i64 f] 26) := by rw [hW0.out]; exact (Blk.new rfl _ _).alloc _
  have B1 : Hid (Blk W0 (w.heap.size + 1) #[.slice Am nm cm, .slice Am' nm' cm'] 30) := by rw [hW0.out]; exact Blk.new (by simp) _ _
  have IK := hide (fun (wq : World) (xq : Ext w wq) => i.isKnown_m wq _ d A c w.heap.size xs (kC.rd_ext HR.out xq) hok (hl.ext xq (Nat.le_refl _)) xq.size n1 (kIt.ok_at hox))
  have AM := hide (fun (wq : World) (xq : Ext w wq) => i.AreMarks_m wq _ m (xs.length : Int) (kM.rd_ext HM.out xq) hom)
  obtain ⟨R, hR⟩ : ∃ R, Hid ((knownB d.1 xs && areMarksF m (xs.length : Int)) = R) := ⟨_, rfl⟩
  have TT : Hid ((belongB d xs m) = R) := by show _ = _; rw [← hR.out]; rfl
  rw [TT.out]
  clear TT
  clear h hx hm hl
  obtain ⟨n, hn⟩ : ∃ n, Hid (xs.length = n) := ⟨_, rfl⟩
  rw [hn.out] at n1 a1 ⊢
  try rw [hn.out] at IK
  try rw [hn.out] at AM
  try rw [hn.out] at hR
  go_enter Tryz.func44, Tryz.ntmps44
  go_wp2_with fail
  rw [← hW0.out]
  clear hW0
  refine (IK.out _ X0.out).mono ?_
  rintro e w1 ⟨rfl, x1⟩
  replace X0 := hide (X0.out.trans x1)
  replace B0 := hide (B0.out.ext x1)
  replace B1 := hide (B1.out.ext x1)
  clear x1
  have c0_ := B0.out.cell; have c1_ := B1.out.cell
  cases hc : knownB d.1 xs
  · have HF : Hid (R = false) := by show _ = _; rw [← hR.out, hc]; simp
    clear hc
    go_wp2
    go_ret
    exact ⟨ret_bool HF.out.symm, X0.out⟩
  rw [hc, Bool.true_and] at hR
  clear hc
  go_wp2_with fail
  clear c0_ c1_
  refine (AM.out _ X0.out).mono ?_
  rintro e w2 ⟨rfl, x1⟩
  replace X0 := hide (X0.out.trans x1)
  replace B0 := hide (B0.out.ext x1)
  replace B1 := hide (B1.out.ext x1)
  clear x1
  have c0_ := B0.out.cell; have c1_ := B1.out.cell
  go_wp2
  go_ret
  exact ⟨ret_bool hR.out, X0.out⟩

set_option maxRecDepth 100000 in
set_option maxHeartbeats 2000000 in
theorem i.areJudged_m (w : World) (v v1 v2 : Value) (d : CoD) (xs : List ItD) (m : MD) (h : kC.rd w v d) (hok : kC.ok d) (hx : kIt.rd w v1 xs) (hox : kIt.ok xs) (hm : kM.rd w v2 m) (hom : kM.ok m) :
    Calls Tryz.prog 35 #[v, v1, v2] w fun e w' => e = .returned (.bool (judgedB d xs m)) ∧ Ext w w' := by
  obtain ⟨Ac, nc, cc, Al, nl, cl, r, b, p, f, rfl⟩ := kC.shape h
  obtain ⟨A, c, rfl, hl⟩ := kIt.lr hx
  obtain ⟨Am, nm, cm, Am', nm', cm', rfl⟩ := kM.shape hm
  have HR := hide h
  have HX := hide hx
  have HM := hide hm
  have a1 := hl.1; have a2 := hl.2.1
  have n1 := kIt.ok_len hox
  obtain ⟨W0, hW0⟩ : ∃ W0, Hid (W0 = (w.alloc (.cells #[.slice Ac nc cc, .slice Al nl cl, .int .i64 r, .int .i64 b, .int .i64 p, .int .i64 f] 26)).alloc (.cells #[.slice Am nm cm, .slice Am' nm' cm'] 30)) := ⟨_, rfl⟩
  have X0 : Hid (Ext w W0) := by rw [hW0.out]; exact (Ext.alloc w _).trans (Ext.alloc _ _)
  have B0 : Hid (Blk W0 w.heap.size #[.slice Ac nc cc, .slice Al nl cl, .int .i64 r, .int .i64 b, .int .i64 p, .int .i64 f] 26) := by rw [hW0.out]; exact (Blk.new rfl _ _).alloc _
  have B1 : Hid (Blk W0 (w.heap.size + 1) #[.slice Am nm cm, .slice Am' nm' cm'] 30) := by rw [hW0.out]; exact Blk.new (by simp) _ _
  have IC := hide (fun (wq : World) (xq : Ext w wq) => i.IsCode_m wq _ d (kC.rd_ext HR.out xq) hok)
  have II := hide (fun (wq : World) (xq : Ext w wq) => i.AreItems_wk wq A c w.heap.size xs (hl.ext xq (Nat.le_refl _)) xq.size n1 (kIt.ok_at hox))
  have BL := hide (fun (wq : World) (xq : Ext w wq) => i.belong_m wq _ _ _ d xs m (kC.rd_ext HR.out xq) hok (kIt.rd_ext HX.out xq) hox (kM.rd_ext HM.out xq) hom)
  obtain ⟨R, hR⟩ : ∃ R, Hid ((codeB d && itemsB xs && belongB d xs m) = R) := ⟨_, rfl⟩
  have TT : Hid ((judgedB d xs m) = R) := by show _ = _; rw [← hR.out]; unfold judgedB belongB; rw [Bool.and_assoc]
  rw [TT.out]
  clear TT
  clear h hx hm hl
  obtain ⟨n, hn⟩ : ∃ n, Hid (xs.length = n) := ⟨_, rfl⟩
  rw [hn.out] at n1 a1 ⊢
  try rw [hn.out] at IC
  try rw [hn.out] at II
  try rw [hn.out] at BL
  try rw [hn.out] at hR
  go_enter Tryz.func35, Tryz.ntmps35
  go_wp2_with fail
  rw [← hW0.out]
  clear hW0
  refine (IC.out _ X0.out).mono ?_
  rintro e w1 ⟨rfl, x1⟩
  replace X0 := hide (X0.out.trans x1)
  replace B0 := hide (B0.out.ext x1)
  replace B1 := hide (B1.out.ext x1)
  clear x1
  have c0_ := B0.out.cell; have c1_ := B1.out.cell
  cases hc : codeB d
  · have HF : Hid (R = false) := by show _ = _; rw [← hR.out, hc]; simp
    clear hc
    go_wp2
    go_ret
    exact ⟨ret_bool HF.out.symm, X0.out⟩
  rw [hc, Bool.true_and] at hR
  clear hc
  go_wp2_with fail
  clear c0_ c1_
  refine (II.out _ X0.out).mono ?_
  rintro e w2 ⟨rfl, x1⟩
  replace X0 := hide (X0.out.trans x1)
  replace B0 := hide (B0.out.ext x1)
  replace B1 := hide (B1.out.ext x1)
  clear x1
  have c0_ := B0.out.cell; have c1_ := B1.out.cell
  cases hc : itemsB xs
  · have HF : Hid (R = false) := by show _ = _; rw [← hR.out, hc]; simp
    clear hc
    go_wp2
    go_ret
    exact ⟨ret_bool HF.out.symm, X0.out⟩
  rw [hc, Bool.true_and] at hR
  clear hc
  go_wp2_with fail
  clear c0_ c1_
  refine (BL.out _ X0.out).mono ?_
  rintro e w3 ⟨rfl, x1⟩
  replace X0 := hide (X0.out.trans x1)
  replace B0 := hide (B0.out.ext x1)
  replace B1 := hide (B1.out.ext x1)
  clear x1
  have c0_ := B0.out.cell; have c1_ := B1.out.cell
  go_wp2
  go_ret
  exact ⟨ret_bool hR.out, X0.out⟩

set_option maxRecDepth 100000 in
set_option maxHeartbeats 2000000 in
theorem s.elGood_m (w : World) (v v1 v2 : Value) (d : CoD) (xs : List ItD) (m : MD) (h : kC.rd w v d) (hok : kC.ok d) (hx : kIt.rd w v1 xs) (hox : kIt.ok xs) (hm : kM.rd w v2 m) (hom : kM.ok m) :
    Calls Tryz.prog 37 #[v, v1, v2] w fun e w' => e = .returned (.bool (judgedB d xs m)) ∧ Ext w w' := by
  obtain ⟨Ac, nc, cc, Al, nl, cl, r, b, p, f, rfl⟩ := kC.shape h
  obtain ⟨A, c, rfl, hl⟩ := kIt.lr hx
  obtain ⟨Am, nm, cm, Am', nm', cm', rfl⟩ := kM.shape hm
  have HR := hide h
  have HX := hide hx
  have HM := hide hm
  have a1 := hl.1; have a2 := hl.2.1
  have n1 := kIt.ok_len hox
  obtain ⟨W0, hW0⟩ : ∃ W0, Hid (W0 = (w.alloc (.cells #[.slice Ac nc cc, .slice Al nl cl, .int .i64 r, .int .i64 b, .int .i64 p, .int .i64 f] 26)).alloc (.cells #[.slice Am nm cm, .slice Am' nm' cm'] 30)) := ⟨_, rfl⟩
  have X0 : Hid (Ext w W0) := by rw [hW0.out]; exact (Ext.alloc w _).trans (Ext.alloc _ _)
  have B0 : Hid (Blk W0 w.heap.size #[.slice Ac nc cc, .slice Al nl cl, .int .i64 r, .int .i64 b, .int .i64 p, .int .i64 f] 26) := by rw [hW0.out]; exact (Blk.new rfl _ _).alloc _
  have B1 : Hid (Blk W0 (w.heap.size + 1) #[.slice Am nm cm, .slice Am' nm' cm'] 30) := by rw [hW0.out]; exact Blk.new (by simp) _ _
  have BG := hide (fun (wq : World) (xq : Ext w wq) => s.bsGood_m wq _ d A c w.heap.size xs (kC.rd_ext HR.out xq) hok (hl.ext xq (Nat.le_refl _)) xq.size n1 (kIt.ok_at hox))
  have MG := hide (fun (wq : World) (xq : Ext w wq) => s.mkGood_m wq _ m (xs.length : Int) (kM.rd_ext HM.out xq) hom)
  obtain ⟨R, hR⟩ : ∃ R, Hid (((codeB d && itemsB xs && knownB d.1 xs) && areMarksF m (xs.length : Int)) = R) := ⟨_, rfl⟩
  have TT : Hid ((judgedB d xs m) = R) := by show _ = _; rw [← hR.out]; rfl
  rw [TT.out]
  clear TT
  clear h hx hm hl
  obtain ⟨n, hn⟩ : ∃ n, Hid (xs.length = n) := ⟨_, rfl⟩
  rw [hn.out] at n1 a1 ⊢
  try rw [hn.out] at BG
  try rw [hn.out] at MG
  try rw [hn.out] at hR
  go_enter Tryz.func37, Tryz.ntmps37
  go_wp2_with fail
  rw [← hW0.out]
  clear hW0
  refine (BG.out _ X0.out).mono ?_
  rintro e w1 ⟨rfl, x1⟩
  replace X0 := hide (X0.out.trans x1)
  replace B0 := hide (B0.out.ext x1)
  replace B1 := hide (B1.out.ext x1)
  clear x1
  have c0_ := B0.out.cell; have c1_ := B1.out.cell
  cases hc : (codeB d && itemsB xs && knownB d.1 xs)
  · have HF : Hid (R = false) := by show _ = _; rw [← hR.out, hc]; simp
    clear hc
    go_wp2
    go_ret
    exact ⟨ret_bool HF.out.symm, X0.out⟩
  rw [hc, Bool.true_and] at hR
  clear hc
  go_wp2_with fail
  clear c0_ c1_
  refine (MG.out _ X0.out).mono ?_
  rintro e w2 ⟨rfl, x1⟩
  replace X0 := hide (X0.out.trans x1)
  replace B0 := hide (B0.out.ext x1)
  replace B1 := hide (B1.out.ext x1)
  clear x1
  have c0_ := B0.out.cell; have c1_ := B1.out.cell
  go_wp2
  go_ret
  exact ⟨ret_bool hR.out, X0.out⟩

def roundP (s u c : Int) : Int := roundI (s * u) (10 * c)
/-- The grade points of an item for some grades. -/
def pointF (d : CoD) (xs : List ItD) (k : Nat) (gs : List Int) : Int := if baseF d xs k = 0 then 0 else roundP (trimF gs).1 (unitF d (xs.getD k noItem)) (trimF gs).2
theorem roundP_bd {s u c : Int} (hs : -100000 ≤ s ∧ s ≤ 100000) (hu : 0 ≤ u ∧ u ≤ 2000) (hc : 1 ≤ c ∧ c ≤ 9) : -200000000 ≤ s * u ∧ s * u ≤ 200000000 ∧ -300000000 ≤ roundP s u c ∧ roundP s u c ≤ 300000000 := by
  have h1 : s * u ≤ 100000 * u := Int.mul_le_mul_of_nonneg_right hs.2 hu.1
  have h2 : -100000 * u ≤ s * u := Int.mul_le_mul_of_nonneg_right hs.1 hu.1
  have h3 : -200000000 ≤ s * u := by omega
  have h4 : s * u ≤ 200000000 := by omega
  refine ⟨h3, h4, ?_⟩
  unfold roundP roundI
  generalize s * u = t at *
  have hd : 0 < 2 * (10 * c) := by omega
  constructor
  · rw [Int.le_ediv_iff_mul_le hd]
    have : 300000000 * (2 * (10 * c)) ≥ 300000000 * 20 := by omega
    omega
  · have := Int.ediv_le_self (a := 2 * t + 10 * c) (b := 2 * (10 * c))
    by_cases hn : 0 ≤ 2 * t + 10 * c
    · have h5 : (2 * t + 10 * c) / (2 * (10 * c)) ≤ 2 * t + 10 * c := Int.ediv_le_self _ hn
      have h6 : (2 * t + 10 * c) / (2 * (10 * c)) < 300000001 := by
        rw [Int.ediv_lt_iff_lt_mul hd]
        omega
      omega
    · have : (2 * t + 10 * c) / (2 * (10 * c)) < 0 := Int.ediv_neg_of_neg_of_pos (by omega) hd
      omega
theorem pointF_bd {d : CoD} (hd : CodeOk d) (xs : List ItD) (k : Nat) {gs : List Int} (hg : goodMarks gs = true) : -300000000 ≤ pointF d xs k gs ∧ pointF d xs k gs ≤ 300000000 := by
  have ht := trim_bd hg
  have hu := unitN_bd hd (xs.getD k noItem) (xs.getD k noItem).1.length
  unfold pointF
  split
  · omega
  · exact (roundP_bd ⟨ht.1, ht.2.1⟩ hu ⟨ht.2.2.1, ht.2.2.2⟩).2.2

set_option maxRecDepth 100000 in
set_option maxHeartbeats 2000000 in
theorem i.pointsFor_m (w : World) (v : Value) (d : CoD) (A : Option Addr) (c B : Nat) (xs : List ItD) (k : Nat) (G : Option Addr) (ng cg : Nat) (gs : List Int) (h : kC.rd w v d) (hok : kC.ok d) (hd : CodeOk d) (hl : LR kdItem w B A c xs) (hB : B ≤ w.heap.size) (ho : LsOk d xs) (hk : k < xs.length) (hg : SlI w B G ng gs) (hgd : goodMarks gs = true) :
    Calls Tryz.prog 50 #[v, .slice A xs.length c, .int .i64 k, .slice G ng cg] w fun e w' => e = .returned (.int .i64 (pointF d xs k gs)) ∧ Ext w w' := by
  obtain ⟨Ac, nc, cc, Al, nl, cl, r, b, p, f, rfl⟩ := kC.shape h
  have HR := hide h
  have h14 := ho.n
  have gok := good_ok hgd
  have tb := trim_bd hgd
  have hng := hg.len
  obtain ⟨x, hx⟩ : ∃ x, Hid (xs[k]? = some x) := ⟨_, List.getElem?_eq_getElem hk⟩
  have IB := hide (fun (wq : World) (xq : Ext w wq) => i.itemBase_m wq _ d A c B xs k (kC.rd_ext HR.out xq) hok hd (hl.ext xq hB) (Nat.le_trans hB xq.size) ho hk)
  have TR := hide (fun (wq : World) (xq : Ext w wq) => i.trim_c G ng cg B gs wq (hg.ext xq hB) (Nat.le_trans hB xq.size) (by omega) gok.2.2.2)
  have PF : Hid (pointF d xs k gs = if baseF d xs k = 0 then 0 else roundP (trimF gs).1 (unitF d x) (trimF gs).2) := by show _ = _; unfold pointF; rw [getD_some hx.out]
  have ub := unitN_bd hd x x.1.length
  have ub : 0 ≤ unitF d x ∧ unitF d x ≤ 2000 := ub
  have bb := baseF_bd hd ho k
  have RX := hide (fun (wq : World) (xq : Ext w wq) => (hl.ext xq hB).item k x hx.out)
  have UO := hide (fun (wq : World) (xq : Ext w wq) (vs : List Value) (hq : kdItem.rd wq wq.heap.size vs x) => i.unitOf_m wq _ d vs x (kC.rd_ext HR.out xq) hok hd hq (ho.it k x hx.out))
  obtain ⟨W0, hW0⟩ : ∃ W0, Hid (W0 = w.alloc (.cells #[.slice Ac nc cc, .slice Al nl cl, .int .i64 r, .int .i64 b, .int .i64 p, .int .i64 f] 26)) := ⟨_, rfl⟩
  have X0 : Hid (Ext w W0) := by rw [hW0.out]; exact Ext.alloc w _
  have B0 : Hid (Blk W0 w.heap.size #[.slice Ac nc cc, .slice Al nl cl, .int .i64 r, .int .i64 b, .int .i64 p, .int .i64 f] 26) := by rw [hW0.out]; exact Blk.new rfl _ _
  have a1 := hl.1; have a2 := hl.2.1
  clear h hl ho hd hg hgd gok hng
  obtain ⟨n, hn⟩ : ∃ n, Hid (xs.length = n) := ⟨_, rfl⟩
  rw [hn.out] at hk h14 a1 IB ⊢
  obtain ⟨R, hR⟩ : ∃ R, Hid (pointF d xs k gs = R) := ⟨_, rfl⟩
  rw [hR.out] at PF ⊢
  generalize baseF d xs k = Z at *
  generalize unitF d x = U at *
  obtain ⟨T, hT⟩ : ∃ T, Hid (trimF gs = T) := ⟨_, rfl⟩
  rw [hT.out] at PF TR tb
  obtain ⟨ts, tc⟩ := T
  dsimp only at PF TR tb
  go_enter Tryz.func50, Tryz.ntmps50
  go_wp2_with fail
  rw [← hW0.out]
  clear hW0
  refine (IB.out _ X0.out).mono ?_
  rintro e w1 ⟨rfl, x1⟩
  replace X0 := hide (X0.out.trans x1)
  replace B0 := hide (B0.out.ext x1)
  clear x1
  by_cases hz : Z = 0
  · have HF : Hid (R = 0) := by show _ = _; rw [PF.out, if_pos hz]
    have e1 : (Z == 0) = true := by simp [hz]
    clear hz
    go_wp2
    go_ret
    exact ⟨ret_int HF.out.symm, X0.out⟩
  have HF : Hid (R = roundP ts U tc) := by show _ = _; rw [PF.out, if_neg hz]
  have e1 : (Z == 0) = false := by simp [hz]
  clear hz
  go_wp2_with fail
  clear e1
  refine (TR.out _ X0.out).mono ?_
  rintro e w2 ⟨rfl, x1⟩
  replace X0 := hide (X0.out.trans x1)
  replace B0 := hide (B0.out.ext x1)
  clear x1
  obtain ⟨bb1, off, A1, c1, A2, c2, rfl, hb, q0, q1, q2, r1, r2⟩ := RX.out w2 X0.out
  have UQ := hide (fun dd os => ext_regrown (UO.out (grow (redrawn w2 dd) os) (X0.out.trans (ext_re w2 dd os)) _ (kdItem.rd_more (kdItem.rd_ext (kdItem.rd_more (kdItem.mk_ r1 r2) (Nat.le_trans hB X0.out.size)) (ext_re w2 dd os) (Nat.le_refl _)) (ext_re w2 dd os).size)))
  rw [kdItem.val3] at UQ
  obtain ⟨pb1, pb2, pb3, pb4⟩ := roundP_bd (s := ts) (u := U) (c := tc) ⟨tb.1, tb.2.1⟩ ub ⟨tb.2.2.1, tb.2.2.2⟩
  have RO := hide (fun dd os => ext_regrown ((i.roundDiv_any (ts * U) (10 * tc) (grow (redrawn w2 dd) os) (by omega) (by omega) (by omega) (by omega)).mono (fun e w' hh => ⟨hh.1, hh.2 ▸ Ext.refl _⟩)))
  have c0_ := fun dd os => (B0.out.ext (ext_re w2 dd os)).cell
  have v0 := fun dd os => cell_regrown q0 dd os
  have v1 := fun dd os => cell_regrown q1 dd os
  have v2 := fun dd os => cell_regrown q2 dd os
  have i1 : (k : Int) < n := by omega
  have kw1 : IntKind.i64.wrap (ts * U) = ts * U := IntWalk.i64_in _ (by omega)
  have kw2 : IntKind.i64.wrap (10 * tc) = 10 * tc := IntWalk.i64_in _ (by omega)
  clear q0 q1 q2 r1 r2 pb3 pb4
  generalize x.1.length = m1 at *
  generalize x.2.1.length = m2 at *
  generalize x.2.2 = m3 at *
  go_wp2
  refine wp_region_quiet_below (by kernel_rfl) (by kernel_rfl) ?_
  repeat (go_big_quiet_step (first | (go_at_call 57; exact UQ.out _ _) | (go_at_call 89; exact RO.out _ _)))
  refine wpQuiet_nil ?_
  intro _ hw'
  obtain ⟨⟨dq, osq⟩, hw''⟩ := hw'
  subst hw''
  have Y2 := hide (X0.out.trans (ext_re w2 dq osq))
  clear c0_ v0 v1 v2 kw1 kw2
  generalize grow (redrawn w2 dq) osq = w3 at *
  go_wp2
  go_ret
  exact ⟨ret_int (by rw [HF.out]; rfl), Y2.out⟩

set_option maxRecDepth 100000 in
set_option maxHeartbeats 2000000 in
theorem s.elPoints_m (w : World) (v : Value) (d : CoD) (A : Option Addr) (c B : Nat) (xs : List ItD) (k : Nat) (G : Option Addr) (ng cg : Nat) (gs : List Int) (h : kC.rd w v d) (hok : kC.ok d) (hd : CodeOk d) (hl : LR kdItem w B A c xs) (hB : B ≤ w.heap.size) (ho : LsOk d xs) (hk : k < xs.length) (hg : SlI w B G ng gs) (hgd : goodMarks gs = true) :
    Calls Tryz.prog 52 #[v, .slice A xs.length c, .int .i64 k, .slice G ng cg] w fun e w' => e = .returned (.int .i64 (pointF d xs k gs)) ∧ Ext w w' := by
  obtain ⟨Ac, nc, cc, Al, nl, cl, r, b, p, f, rfl⟩ := kC.shape h
  have HR := hide h
  have h14 := ho.n
  have gok := good_ok hgd
  have tb := trim_bd hgd
  have hng := hg.len
  obtain ⟨x, hx⟩ : ∃ x, Hid (xs[k]? = some x) := ⟨_, List.getElem?_eq_getElem hk⟩
  have IB := hide (fun (wq : World) (xq : Ext w wq) => s.bsItem_m wq _ d A c B xs k (kC.rd_ext HR.out xq) hok hd (hl.ext xq hB) (Nat.le_trans hB xq.size) ho hk)
  have TR := hide (fun (wq : World) (xq : Ext w wq) => s.trim_c G ng cg B gs wq (hg.ext xq hB) (Nat.le_trans hB xq.size) (by omega) gok.2.2.2)
  have PF : Hid (pointF d xs k gs = if baseF d xs k = 0 then 0 else roundP (trimF gs).1 (unitF d x) (trimF gs).2) := by show _ = _; unfold pointF; rw [getD_some hx.out]
  have ub := unitN_bd hd x x.1.length
  have ub : 0 ≤ unitF d x ∧ unitF d x ≤ 2000 := ub
  have bb := baseF_bd hd ho k
  have RX := hide (fun (wq : World) (xq : Ext w wq) => (hl.ext xq hB).item k x hx.out)
  have UO := hide (fun (wq : World) (xq : Ext w wq) (vs : List Value) (hq : kdItem.rd wq wq.heap.size vs x) => s.elUnit_m wq _ d vs x (kC.rd_ext HR.out xq) hok hd hq (ho.it k x hx.out))
  obtain ⟨W0, hW0⟩ : ∃ W0, Hid (W0 = w.alloc (.cells #[.slice Ac nc cc, .slice Al nl cl, .int .i64 r, .int .i64 b, .int .i64 p, .int .i64 f] 26)) := ⟨_, rfl⟩
  have X0 : Hid (Ext w W0) := by rw [hW0.out]; exact Ext.alloc w _
  have B0 : Hid (Blk W0 w.heap.size #[.slice Ac nc cc, .slice Al nl cl, .int .i64 r, .int .i64 b, .int .i64 p, .int .i64 f] 26) := by rw [hW0.out]; exact Blk.new rfl _ _
  have a1 := hl.1; have a2 := hl.2.1
  clear h hl ho hd hg hgd gok hng
  obtain ⟨n, hn⟩ : ∃ n, Hid (xs.length = n) := ⟨_, rfl⟩
  rw [hn.out] at hk h14 a1 IB ⊢
  obtain ⟨R, hR⟩ : ∃ R, Hid (pointF d xs k gs = R) := ⟨_, rfl⟩
  rw [hR.out] at PF ⊢
  generalize baseF d xs k = Z at *
  generalize unitF d x = U at *
  obtain ⟨T, hT⟩ : ∃ T, Hid (trimF gs = T) := ⟨_, rfl⟩
  rw [hT.out] at PF TR tb
  obtain ⟨ts, tc⟩ := T
  dsimp only at PF TR tb
  go_enter Tryz.func52, Tryz.ntmps52
  go_wp2_with fail
  rw [← hW0.out]
  clear hW0
  refine (IB.out _ X0.out).mono ?_
  rintro e w1 ⟨rfl, x1⟩
  replace X0 := hide (X0.out.trans x1)
  replace B0 := hide (B0.out.ext x1)
  clear x1
  by_cases hz : Z = 0
  · have HF : Hid (R = 0) := by show _ = _; rw [PF.out, if_pos hz]
    have e1 : (Z == 0) = true := by simp [hz]
    clear hz
    go_wp2
    go_ret
    exact ⟨ret_int HF.out.symm, X0.out⟩
  have HF : Hid (R = roundP ts U tc) := by show _ = _; rw [PF.out, if_neg hz]
  have e1 : (Z == 0) = false := by simp [hz]
  clear hz
  go_wp2_with fail
  clear e1
  refine (TR.out _ X0.out).mono ?_
  rintro e w2 ⟨rfl, x1⟩
  replace X0 := hide (X0.out.trans x1)
  replace B0 := hide (B0.out.ext x1)
  clear x1
  obtain ⟨bb1, off, A1, c1, A2, c2, rfl, hb, q0, q1, q2, r1, r2⟩ := RX.out w2 X0.out
  have UQ := hide (fun dd os => ext_regrown (UO.out (grow (redrawn w2 dd) os) (X0.out.trans (ext_re w2 dd os)) _ (kdItem.rd_more (kdItem.rd_ext (kdItem.rd_more (kdItem.mk_ r1 r2) (Nat.le_trans hB X0.out.size)) (ext_re w2 dd os) (Nat.le_refl _)) (ext_re w2 dd os).size)))
  rw [kdItem.val3] at UQ
  obtain ⟨pb1, pb2, pb3, pb4⟩ := roundP_bd (s := ts) (u := U) (c := tc) ⟨tb.1, tb.2.1⟩ ub ⟨tb.2.2.1, tb.2.2.2⟩
  have RO := hide (fun dd os => ext_regrown ((s.poRound_any (ts * U) (10 * tc) (grow (redrawn w2 dd) os) (by omega) (by omega) (by omega) (by omega)).mono (fun e w' hh => ⟨hh.1, hh.2 ▸ Ext.refl _⟩)))
  have c0_ := fun dd os => (B0.out.ext (ext_re w2 dd os)).cell
  have v0 := fun dd os => cell_regrown q0 dd os
  have v1 := fun dd os => cell_regrown q1 dd os
  have v2 := fun dd os => cell_regrown q2 dd os
  have i1 : (k : Int) < n := by omega
  have kw1 : IntKind.i64.wrap (ts * U) = ts * U := IntWalk.i64_in _ (by omega)
  have kw2 : IntKind.i64.wrap (10 * tc) = 10 * tc := IntWalk.i64_in _ (by omega)
  clear q0 q1 q2 r1 r2 pb3 pb4
  generalize x.1.length = m1 at *
  generalize x.2.1.length = m2 at *
  generalize x.2.2 = m3 at *
  go_wp2
  refine wp_region_quiet_below (by kernel_rfl) (by kernel_rfl) ?_
  repeat (go_big_quiet_step (first | (go_at_call 59; exact UQ.out _ _) | (go_at_call 92; exact RO.out _ _)))
  refine wpQuiet_nil ?_
  intro _ hw'
  obtain ⟨⟨dq, osq⟩, hw''⟩ := hw'
  subst hw''
  have Y2 := hide (X0.out.trans (ext_re w2 dq osq))
  clear c0_ v0 v1 v2 kw1 kw2
  generalize grow (redrawn w2 dq) osq = w3 at *
  go_wp2
  go_ret
  exact ⟨ret_int (by rw [HF.out]; rfl), Y2.out⟩

def areJudgedF (d : CoD) (xs : List ItD) (m : MD) : Bool × Bool := if codeB d && itemsB xs then (knownB d.1 xs && areMarksF m (xs.length : Int), true) else (false, false)

set_option maxRecDepth 100000 in
set_option maxHeartbeats 2000000 in
theorem i.AreJudged_law (w : World) (v v1 v2 : Value) (d : CoD) (xs : List ItD) (m : MD) (h : kC.rd w v d) (hok : kC.ok d) (hx : kIt.rd w v1 xs) (hox : kIt.ok xs) (hm : kM.rd w v2 m) (hom : kM.ok m) :
    Calls Tryz.prog 12 #[v, v1, v2] w fun e w' => e = .returned (.tuple #[.bool (areJudgedF d xs m).1, .bool (areJudgedF d xs m).2]) ∧ Ext w w' := by
  obtain ⟨Ac, nc, cc, Al, nl, cl, r, b, p, f, rfl⟩ := kC.shape h
  obtain ⟨A, c, rfl, hl⟩ := kIt.lr hx
  obtain ⟨Am, nm, cm, Am', nm', cm', rfl⟩ := kM.shape hm
  have HR := hide h
  have HX := hide hx
  have HM := hide hm
  have a1 := hl.1; have a2 := hl.2.1
  have n1 := kIt.ok_len hox
  obtain ⟨W0, hW0⟩ : ∃ W0, Hid (W0 = (w.alloc (.cells #[.slice Ac nc cc, .slice Al nl cl, .int .i64 r, .int .i64 b, .int .i64 p, .int .i64 f] 26)).alloc (.cells #[.slice Am nm cm, .slice Am' nm' cm'] 30)) := ⟨_, rfl⟩
  have X0 : Hid (Ext w W0) := by rw [hW0.out]; exact (Ext.alloc w _).trans (Ext.alloc _ _)
  have B0 : Hid (Blk W0 w.heap.size #[.slice Ac nc cc, .slice Al nl cl, .int .i64 r, .int .i64 b, .int .i64 p, .int .i64 f] 26) := by rw [hW0.out]; exact (Blk.new rfl _ _).alloc _
  have B1 : Hid (Blk W0 (w.heap.size + 1) #[.slice Am nm cm, .slice Am' nm' cm'] 30) := by rw [hW0.out]; exact Blk.new (by simp) _ _
  have IC := hide (fun (wq : World) (xq : Ext w wq) => i.IsCode_m wq _ d (kC.rd_ext HR.out xq) hok)
  have II := hide (fun (wq : World) (xq : Ext w wq) => i.AreItems_wk wq A c w.heap.size xs (hl.ext xq (Nat.le_refl _)) xq.size n1 (kIt.ok_at hox))
  have BL := hide (fun (wq : World) (xq : Ext w wq) => i.belong_m wq _ _ _ d xs m (kC.rd_ext HR.out xq) hok (kIt.rd_ext HX.out xq) hox (kM.rd_ext HM.out xq) hom)
  obtain ⟨F, hF⟩ : ∃ F, Hid (areJudgedF d xs m = F) := ⟨_, rfl⟩
  rw [hF.out]
  clear h hx hm hl
  obtain ⟨n, hn⟩ : ∃ n, Hid (xs.length = n) := ⟨_, rfl⟩
  rw [hn.out] at n1 a1 ⊢
  try rw [hn.out] at IC
  try rw [hn.out] at II
  try rw [hn.out] at BL
  go_enter Tryz.func12, Tryz.ntmps12
  go_wp2_with fail
  rw [← hW0.out]
  clear hW0
  refine (IC.out _ X0.out).mono ?_
  rintro e w1 ⟨rfl, x1⟩
  replace X0 := hide (X0.out.trans x1)
  replace B0 := hide (B0.out.ext x1)
  replace B1 := hide (B1.out.ext x1)
  clear x1
  have c0_ := B0.out.cell; have c1_ := B1.out.cell
  cases hc0 : codeB d
  · have HF : Hid (F = (false, false)) := by show _ = _; rw [← hF.out]; simp [areJudgedF, hc0]
    clear hc0
    go_wp2
    go_ret2
    rw [HF.out]
    exact ⟨rfl, X0.out⟩
  have HC0 := hide hc0
  clear hc0
  go_wp2_with fail
  clear c0_ c1_
  refine (II.out _ X0.out).mono ?_
  rintro e w2 ⟨rfl, x1⟩
  replace X0 := hide (X0.out.trans x1)
  replace B0 := hide (B0.out.ext x1)
  replace B1 := hide (B1.out.ext x1)
  clear x1
  have c0_ := B0.out.cell; have c1_ := B1.out.cell
  cases hc1 : itemsB xs
  · have HF : Hid (F = (false, false)) := by show _ = _; rw [← hF.out]; simp [areJudgedF, hc1]
    clear hc1
    go_wp2
    go_ret2
    rw [HF.out]
    exact ⟨rfl, X0.out⟩
  have HC1 := hide hc1
  clear hc1
  have HF : Hid (F = (belongB d xs m, true)) := by show _ = _; rw [← hF.out]; simp [areJudgedF, belongB, HC0.out, HC1.out]
  go_wp2_with fail
  clear c0_ c1_
  refine (BL.out _ X0.out).mono ?_
  rintro e w9 ⟨rfl, x1⟩
  replace X0 := hide (X0.out.trans x1)
  replace B0 := hide (B0.out.ext x1)
  replace B1 := hide (B1.out.ext x1)
  clear x1
  have c0_ := B0.out.cell; have c1_ := B1.out.cell
  clear c0_ c1_
  go_wp2
  go_ret2
  rw [HF.out]
  exact ⟨rfl, X0.out⟩

set_option maxRecDepth 100000 in
set_option maxHeartbeats 2000000 in
theorem s.AreJudged_law (w : World) (v v1 v2 : Value) (d : CoD) (xs : List ItD) (m : MD) (h : kC.rd w v d) (hok : kC.ok d) (hx : kIt.rd w v1 xs) (hox : kIt.ok xs) (hm : kM.rd w v2 m) (hom : kM.ok m) :
    Calls Tryz.prog 13 #[v, v1, v2] w fun e w' => e = .returned (.tuple #[.bool (areJudgedF d xs m).1, .bool (areJudgedF d xs m).2]) ∧ Ext w w' := by
  obtain ⟨Ac, nc, cc, Al, nl, cl, r, b, p, f, rfl⟩ := kC.shape h
  obtain ⟨A, c, rfl, hl⟩ := kIt.lr hx
  obtain ⟨Am, nm, cm, Am', nm', cm', rfl⟩ := kM.shape hm
  have HR := hide h
  have HX := hide hx
  have HM := hide hm
  have a1 := hl.1; have a2 := hl.2.1
  have n1 := kIt.ok_len hox
  obtain ⟨W0, hW0⟩ : ∃ W0, Hid (W0 = (w.alloc (.cells #[.slice Ac nc cc, .slice Al nl cl, .int .i64 r, .int .i64 b, .int .i64 p, .int .i64 f] 26)).alloc (.cells #[.slice Am nm cm, .slice Am' nm' cm'] 30)) := ⟨_, rfl⟩
  have X0 : Hid (Ext w W0) := by rw [hW0.out]; exact (Ext.alloc w _).trans (Ext.alloc _ _)
  have B0 : Hid (Blk W0 w.heap.size #[.slice Ac nc cc, .slice Al nl cl, .int .i64 r, .int .i64 b, .int .i64 p, .int .i64 f] 26) := by rw [hW0.out]; exact (Blk.new rfl _ _).alloc _
  have B1 : Hid (Blk W0 (w.heap.size + 1) #[.slice Am nm cm, .slice Am' nm' cm'] 30) := by rw [hW0.out]; exact Blk.new (by simp) _ _
  have SC := hide (fun (wq : World) (xq : Ext w wq) => s.cdGood_m wq _ d (kC.rd_ext HR.out xq) hok)
  have SI := hide (fun (wq : World) (xq : Ext w wq) => s.itList_wk wq A c w.heap.size xs (hl.ext xq (Nat.le_refl _)) xq.size n1 (kIt.ok_at hox))
  have EG := hide (fun (wq : World) (xq : Ext w wq) => s.elGood_m wq _ _ _ d xs m (kC.rd_ext HR.out xq) hok (kIt.rd_ext HX.out xq) hox (kM.rd_ext HM.out xq) hom)
  obtain ⟨F, hF⟩ : ∃ F, Hid (areJudgedF d xs m = F) := ⟨_, rfl⟩
  rw [hF.out]
  clear h hx hm hl
  obtain ⟨n, hn⟩ : ∃ n, Hid (xs.length = n) := ⟨_, rfl⟩
  rw [hn.out] at n1 a1 ⊢
  try rw [hn.out] at SC
  try rw [hn.out] at SI
  try rw [hn.out] at EG
  go_enter Tryz.func13, Tryz.ntmps13
  go_wp2_with fail
  rw [← hW0.out]
  clear hW0
  refine (SC.out _ X0.out).mono ?_
  rintro e w1 ⟨rfl, x1⟩
  replace X0 := hide (X0.out.trans x1)
  replace B0 := hide (B0.out.ext x1)
  replace B1 := hide (B1.out.ext x1)
  clear x1
  have c0_ := B0.out.cell; have c1_ := B1.out.cell
  cases hc0 : codeB d
  · have HF : Hid (F = (false, false)) := by show _ = _; rw [← hF.out]; simp [areJudgedF, hc0]
    clear hc0
    go_wp2
    go_ret2
    rw [HF.out]
    exact ⟨rfl, X0.out⟩
  have HC0 := hide hc0
  clear hc0
  go_wp2_with fail
  clear c0_ c1_
  refine (SI.out _ X0.out).mono ?_
  rintro e w2 ⟨rfl, x1⟩
  replace X0 := hide (X0.out.trans x1)
  replace B0 := hide (B0.out.ext x1)
  replace B1 := hide (B1.out.ext x1)
  clear x1
  have c0_ := B0.out.cell; have c1_ := B1.out.cell
  cases hc1 : itemsB xs
  · have HF : Hid (F = (false, false)) := by show _ = _; rw [← hF.out]; simp [areJudgedF, hc1]
    clear hc1
    go_wp2
    go_ret2
    rw [HF.out]
    exact ⟨rfl, X0.out⟩
  have HC1 := hide hc1
  clear hc1
  have HF : Hid (F = (judgedB d xs m, true)) := by show _ = _; rw [← hF.out]; simp [areJudgedF, judgedB, HC0.out, HC1.out]
  go_wp2_with fail
  clear c0_ c1_
  refine (EG.out _ X0.out).mono ?_
  rintro e w9 ⟨rfl, x1⟩
  replace X0 := hide (X0.out.trans x1)
  replace B0 := hide (B0.out.ext x1)
  replace B1 := hide (B1.out.ext x1)
  clear x1
  have c0_ := B0.out.cell; have c1_ := B1.out.cell
  clear c0_ c1_
  go_wp2
  go_ret2
  rw [HF.out]
  exact ⟨rfl, X0.out⟩
end Go.Proofs.YtaoeomgehpdedaaGreat
