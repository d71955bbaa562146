/- Points and scores of judged items. -/
import Derived.Test.YtaoeomgehpdedaaGreatRN
namespace Go.Proofs.YtaoeomgehpdedaaGreat
open Go.RowKit Go.Sort
set_option linter.unusedVariables false

def gradesAt (m : MD) (k : Nat) : List Int := m.1.getD k []
def scoreF (d : CoD) (xs : List ItD) (m : MD) (k : Nat) : Int := baseF d xs k + pointF d xs k (gradesAt m k)
def hasJ (d : CoD) (xs : List ItD) (m : MD) (k : Int) : Bool := judgedB d xs m && inB 0 ((xs.length : Int) - 1) k
def gradePointsF (d : CoD) (xs : List ItD) (m : MD) (k : Int) : Int × Bool := if hasJ d xs m k then (pointF d xs k.toNat (gradesAt m k.toNat), true) else (0, false)
def itemScoreF (d : CoD) (xs : List ItD) (m : MD) (k : Int) : Int × Bool := if hasJ d xs m k then (scoreF d xs m k.toNat, true) else (0, false)
theorem hasJ_ok {d : CoD} {xs : List ItD} {m : MD} {k : Int} (h : hasJ d xs m k = true) : JOk d xs m ∧ ∃ j : Nat, k = j ∧ j < xs.length := by
  simp only [hasJ, Bool.and_eq_true] at h
  have h2 := h.2
  simp only [inB, Bool.and_eq_true, decide_eq_true_eq] at h2
  exact ⟨jOk h.1, k.toNat, by omega, by omega⟩
theorem JOk.grades {d : CoD} {xs : List ItD} {m : MD} (h : JOk d xs m) {k : Nat} (hk : k < xs.length) : ∃ x, Hid (m.1[k]? = some x) ∧ gradesAt m k = x ∧ goodMarks x = true := by
  have hl : k < m.1.length := by rw [h.ln]; exact hk
  exact ⟨m.1[k], List.getElem?_eq_getElem hl, getD_some (List.getElem?_eq_getElem hl), h.row (List.getElem?_eq_getElem hl)⟩
theorem scoreF_bd {d : CoD} {xs : List ItD} {m : MD} (h : JOk d xs m) {k : Nat} (hk : k < xs.length) : -300010000 ≤ scoreF d xs m k ∧ scoreF d xs m k ≤ 300010000 := by
  obtain ⟨x, _, e, hg⟩ := h.grades hk
  have h1 := baseF_bd h.co h.ls k
  have h2 := pointF_bd h.co xs k (gs := gradesAt m k) (by rw [e]; exact hg)
  unfold scoreF
  omega

set_option maxRecDepth 100000 in
set_option maxHeartbeats 2000000 in
theorem i.hasJudged_m (w : World) (v v1 v2 : Value) (d : CoD) (xs : List ItD) (m : MD) (h : kC.rd w v d) (hok : kC.ok d) (hx : kIt.rd w v1 xs) (hox : kIt.ok xs) (hm : kM.rd w v2 m) (hom : kM.ok m) (k : Int) (hk : InR k) :
    Calls Tryz.prog 49 #[v, v1, v2, .int .i64 k] w fun e w' => e = .returned (.bool (hasJ d xs m k)) ∧ Ext w w' := by
  obtain ⟨Ac, nc, cc, Al, nl, cl, r, b, p, f, rfl⟩ := kC.shape h
  obtain ⟨A, c, rfl, hl⟩ := kIt.lr hx
  obtain ⟨Am, nm, cm, Am', nm', cm', rfl⟩ := kM.shape hm
  have HR := hide h
  have HX := hide hx
  have HM := hide hm
  have a1 := hl.1; have a2 := hl.2.1
  have n1 := kIt.ok_len hox
  obtain ⟨W0, hW0⟩ : ∃ W0, Hid (W0 = (w.alloc (.cells #[.slice Ac nc cc, .slice Al nl cl, .int .i64 r, .int .i64 b, .int .i64 p, .int .i64 f] 26)).alloc (.cells #[.slice Am nm cm, .slice Am' nm' cm'] 30)) := ⟨_, rfl⟩
  have X0 : Hid (Ext w W0) := by rw [hW0.out]; exact (Ext.alloc w _).trans (Ext.alloc _ _)
  have B0 : Hid (Blk W0 w.heap.size #[.slice Ac nc cc, .slice Al nl cl, .int .i64 r, .int .i64 b, .int .i64 p, .int .i64 f] 26) := by rw [hW0.out]; exact (Blk.new rfl _ _).alloc _
  have B1 : Hid (Blk W0 (w.heap.size + 1) #[.slice Am nm cm, .slice Am' nm' cm'] 30) := by rw [hW0.out]; exact Blk.new (by simp) _ _
  have JJ := hide (fun (wq : World) (xq : Ext w wq) => i.areJudged_m wq _ _ _ d xs m (kC.rd_ext HR.out xq) hok (kIt.rd_ext HX.out xq) hox (kM.rd_ext HM.out xq) hom)
  have hI : hasJ d xs m k = (judgedB d xs m && inB 0 ((xs.length : Int) - 1) k) := rfl
  obtain ⟨R, hR⟩ : ∃ R, Hid (hasJ d xs m k = R) := ⟨_, rfl⟩
  rw [hR.out]
  have HI : Hid (R = (judgedB d xs m && inB 0 ((xs.length : Int) - 1) k)) := by show _ = _; rw [← hR.out]; rfl
  clear h hx hm hl hI hR
  obtain ⟨n, hn⟩ : ∃ n, Hid (xs.length = n) := ⟨_, rfl⟩
  rw [hn.out] at n1 a1 ⊢
  try rw [hn.out] at JJ
  try rw [hn.out] at HI
  cases hin : inB 0 ((n : Int) - 1) k
  · have HF : Hid (R = false) := by show _ = _; rw [HI.out, hin]; simp
    rw [hW0.out] at X0
    clear HI
    go_enter Tryz.func49, Tryz.ntmps49
    go_wp2_with (go_at_call 60; refine (i.within_any _ _ _ _).mono ?_; rintro e w' ⟨rfl, rfl⟩)
    go_ret
    exact ⟨ret_bool HF.out.symm, X0.out⟩
  rw [hin, Bool.and_true] at HI
  go_enter Tryz.func49, Tryz.ntmps49
  go_wp2_with (go_at_call 60; refine (i.within_any _ _ _ _).mono ?_; rintro e w' ⟨rfl, rfl⟩)
  rw [← hW0.out]
  clear hW0
  refine (JJ.out _ X0.out).mono ?_
  rintro e w1 ⟨rfl, x1⟩
  replace X0 := hide (X0.out.trans x1)
  clear x1
  go_wp2
  go_ret
  exact ⟨ret_bool HI.out.symm, X0.out⟩

set_option maxRecDepth 100000 in
set_option maxHeartbeats 2000000 in
theorem s.elHas_m (w : World) (v v1 v2 : Value) (d : CoD) (xs : List ItD) (m : MD) (h : kC.rd w v d) (hok : kC.ok d) (hx : kIt.rd w v1 xs) (hox : kIt.ok xs) (hm : kM.rd w v2 m) (hom : kM.ok m) (k : Int) (hk : InR k) :
    Calls Tryz.prog 51 #[v, v1, v2, .int .i64 k] w fun e w' => e = .returned (.bool (hasJ d xs m k)) ∧ Ext w w' := by
  obtain ⟨Ac, nc, cc, Al, nl, cl, r, b, p, f, rfl⟩ := kC.shape h
  obtain ⟨A, c, rfl, hl⟩ := kIt.lr hx
  obtain ⟨Am, nm, cm, Am', nm', cm', rfl⟩ := kM.shape hm
  have HR := hide h
  have HX := hide hx
  have HM := hide hm
  have a1 := hl.1; have a2 := hl.2.1
  have n1 := kIt.ok_len hox
  obtain ⟨W0, hW0⟩ : ∃ W0, Hid (W0 = (w.alloc (.cells #[.slice Ac nc cc, .slice Al nl cl, .int .i64 r, .int .i64 b, .int .i64 p, .int .i64 f] 26)).alloc (.cells #[.slice Am nm cm, .slice Am' nm' cm'] 30)) := ⟨_, rfl⟩
  have X0 : Hid (Ext w W0) := by rw [hW0.out]; exact (Ext.alloc w _).trans (Ext.alloc _ _)
  have B0 : Hid (Blk W0 w.heap.size #[.slice Ac nc cc, .slice Al nl cl, .int .i64 r, .int .i64 b, .int .i64 p, .int .i64 f] 26) := by rw [hW0.out]; exact (Blk.new rfl _ _).alloc _
  have B1 : Hid (Blk W0 (w.heap.size + 1) #[.slice Am nm cm, .slice Am' nm' cm'] 30) := by rw [hW0.out]; exact Blk.new (by simp) _ _
  have EG := hide (fun (wq : World) (xq : Ext w wq) => s.elGood_m wq _ _ _ d xs m (kC.rd_ext HR.out xq) hok (kIt.rd_ext HX.out xq) hox (kM.rd_ext HM.out xq) hom)
  obtain ⟨R, hR⟩ : ∃ R, Hid (hasJ d xs m k = R) := ⟨_, rfl⟩
  rw [hR.out]
  have HI : Hid (R = (judgedB d xs m && inB 0 ((xs.length : Int) - 1) k)) := by show _ = _; rw [← hR.out]; rfl
  clear h hx hm hl hR
  obtain ⟨n, hn⟩ : ∃ n, Hid (xs.length = n) := ⟨_, rfl⟩
  rw [hn.out] at n1 a1 ⊢
  try rw [hn.out] at EG
  try rw [hn.out] at HI
  go_enter Tryz.func51, Tryz.ntmps51
  go_wp2_with fail
  rw [← hW0.out]
  clear hW0
  refine (EG.out _ X0.out).mono ?_
  rintro e w1 ⟨rfl, x1⟩
  replace X0 := hide (X0.out.trans x1)
  clear x1
  cases hj : judgedB d xs m
  · have HF : Hid (R = false) := by show _ = _; rw [HI.out, hj]; simp
    clear hj HI
    go_wp2
    go_ret
    exact ⟨ret_bool HF.out.symm, X0.out⟩
  rw [hj, Bool.true_and] at HI
  clear hj
  go_wp2_with (go_at_call 67; refine (s.l1In_any _ _ _ _).mono ?_; rintro e w' ⟨rfl, rfl⟩)
  go_ret
  exact ⟨ret_bool HI.out.symm, X0.out⟩

set_option maxRecDepth 100000 in
set_option maxHeartbeats 2000000 in
theorem i.itemScore_m (w : World) (v v1 v2 : Value) (d : CoD) (xs : List ItD) (m : MD) (k : Nat) (h : kC.rd w v d) (hok : kC.ok d) (hx : kIt.rd w v1 xs) (hm : kM.rd w v2 m) (hj : JOk d xs m) (hk : k < xs.length) :
    Calls Tryz.prog 55 #[v, v1, v2, .int .i64 k] w fun e w' => e = .returned (.int .i64 (scoreF d xs m k)) ∧ Ext w w' := by
  obtain ⟨Ac, nc, cc, Al, nl, cl, r, b, p, f, rfl⟩ := kC.shape h
  obtain ⟨A, c, rfl, hl⟩ := kIt.lr hx
  have HR := hide h
  obtain ⟨g, hgr, hge, hgg⟩ := hj.grades hk
  obtain ⟨Am, cm, Am', cm', rfl, hm1, _⟩ := kM.lr hm
  obtain ⟨nm, NM⟩ : ∃ z, Hid (m.1.length = z) := ⟨_, rfl⟩
  obtain ⟨nm', NM'⟩ : ∃ z, Hid (m.2.length = z) := ⟨_, rfl⟩
  have HM := hide hm
  have HM1 := hide hm1
  have b1 := hm1.1; have b2 := hm1.2.1
  have ln := hj.ln
  have h14 := hj.ls.n
  rw [NM.out, NM'.out] at HM ⊢
  rw [NM.out] at b1 ln
  clear hm hm1
  have a1 := hl.1; have a2 := hl.2.1
  obtain ⟨W0, hW0⟩ : ∃ W0, Hid (W0 = (w.alloc (.cells #[.slice Ac nc cc, .slice Al nl cl, .int .i64 r, .int .i64 b, .int .i64 p, .int .i64 f] 26)).alloc (.cells #[.slice Am nm cm, .slice Am' nm' cm'] 30)) := ⟨_, rfl⟩
  have X0 : Hid (Ext w W0) := by rw [hW0.out]; exact (Ext.alloc w _).trans (Ext.alloc _ _)
  have B0 : Hid (Blk W0 w.heap.size #[.slice Ac nc cc, .slice Al nl cl, .int .i64 r, .int .i64 b, .int .i64 p, .int .i64 f] 26) := by rw [hW0.out]; exact (Blk.new rfl _ _).alloc _
  obtain ⟨bm, om, Ak, ck, rfl, hbm, rc, rr⟩ := HM1.out.row X0.out (Nat.le_refl _) hgr.out
  have rcell := fun dd os => cell_regrown rc dd os
  have B1 : Hid (Blk W0 (w.heap.size + 1) #[.slice (some ⟨bm, om, none⟩) nm cm, .slice Am' nm' cm'] 30) := by rw [hW0.out]; exact Blk.new (by simp) _ _
  have zX := X0.out.size
  have PQ := hide (fun dd os => ext_regrown (i.pointsFor_m (grow (redrawn W0 dd) os) _ d A c w.heap.size xs k Ak g.length ck g (kC.rd_ext HR.out (X0.out.trans (ext_re W0 dd os))) hok hj.co (hl.ext (X0.out.trans (ext_re W0 dd os)) (Nat.le_refl _)) (X0.out.trans (ext_re W0 dd os)).size hj.ls hk (rr.ext (ext_re W0 dd os) zX).sl hgg))
  have BQ := hide (fun dd os => ext_regrown (i.itemBase_m (grow (redrawn W0 dd) os) _ d A c w.heap.size xs k (kC.rd_ext HR.out (X0.out.trans (ext_re W0 dd os))) hok hj.co (hl.ext (X0.out.trans (ext_re W0 dd os)) (Nat.le_refl _)) (X0.out.trans (ext_re W0 dd os)).size hj.ls hk))
  have SE : Hid (scoreF d xs m k = baseF d xs k + pointF d xs k g) := by show _ = _; unfold scoreF; rw [hge]
  have bb := baseF_bd hj.co hj.ls k
  have pb := pointF_bd hj.co xs k hgg
  clear h hx hl hj rr hgg rc hge
  obtain ⟨n, hn⟩ : ∃ n, Hid (xs.length = n) := ⟨_, rfl⟩
  rw [hn.out] at hk h14 a1 ln PQ BQ ⊢
  have ln2 : nm ≤ n ∧ n ≤ nm := by omega
  clear ln
  have nl1 : nm ≤ 14 := by omega
  have kn : k < nm := by omega
  have ki : (k : Int) < nm := by omega
  have c0_ := fun dd os => (B0.out.ext (ext_re W0 dd os)).cell
  have c1_ := fun dd os => (B1.out.ext (ext_re W0 dd os)).cell
  obtain ⟨R, hR⟩ : ∃ R, Hid (scoreF d xs m k = R) := ⟨_, rfl⟩
  rw [hR.out] at SE ⊢
  generalize g.length = gl at *
  generalize baseF d xs k = Z at *
  generalize pointF d xs k g = P at *
  have kw : IntKind.i64.wrap (Z + P) = Z + P := IntWalk.i64_in _ (by omega)
  go_enter Tryz.func55, Tryz.ntmps55
  go_wp2
  rw [← hW0.out]
  clear hW0
  refine wp_region_quiet_below (by kernel_rfl) (by kernel_rfl) ?_
  repeat (go_big_quiet_step (first | (go_at_call 50; exact PQ.out _ _) | (go_at_call 54; exact BQ.out _ _)))
  refine wpQuiet_nil ?_
  intro _ hw'
  obtain ⟨⟨dq, osq⟩, hw''⟩ := hw'
  subst hw''
  have Y2 := hide (X0.out.trans (ext_re W0 dq osq))
  clear c0_ c1_ rcell kw
  generalize grow (redrawn W0 dq) osq = w2 at *
  go_wp2
  go_ret
  exact ⟨ret_int SE.out.symm, Y2.out⟩

set_option maxRecDepth 100000 in
set_option maxHeartbeats 2000000 in
theorem s.elOf_m (w : World) (v : Value) (d : CoD) (A : Option Addr) (c B : Nat) (xs : List ItD) (k : Nat) (G : Option Addr) (ng cg : Nat) (gs : List Int) (h : kC.rd w v d) (hok : kC.ok d) (hd : CodeOk d) (hl : LR kdItem w B A c xs) (hB : B ≤ w.heap.size) (ho : LsOk d xs) (hk : k < xs.length) (hg : SlI w B G ng gs) (hgd : goodMarks gs = true) :
    Calls Tryz.prog 63 #[v, .slice A xs.length c, .int .i64 k, .slice G ng cg] w fun e w' => e = .returned (.int .i64 (baseF d xs k + pointF d xs k gs)) ∧ Ext w w' := by
  obtain ⟨Ac, nc, cc, Al, nl, cl, r, b, p, f, rfl⟩ := kC.shape h
  have HR := hide h
  have bb := baseF_bd hd ho k
  have pb := pointF_bd hd xs k hgd
  obtain ⟨W0, hW0⟩ : ∃ W0, Hid (W0 = w.alloc (.cells #[.slice Ac nc cc, .slice Al nl cl, .int .i64 r, .int .i64 b, .int .i64 p, .int .i64 f] 26)) := ⟨_, rfl⟩
  have X0 : Hid (Ext w W0) := by rw [hW0.out]; exact Ext.alloc w _
  have B0 : Hid (Blk W0 w.heap.size #[.slice Ac nc cc, .slice Al nl cl, .int .i64 r, .int .i64 b, .int .i64 p, .int .i64 f] 26) := by rw [hW0.out]; exact Blk.new rfl _ _
  have BQ := hide (fun dd os => ext_regrown (s.bsItem_m (grow (redrawn W0 dd) os) _ d A c B xs k (kC.rd_ext HR.out (X0.out.trans (ext_re W0 dd os))) hok hd (hl.ext (X0.out.trans (ext_re W0 dd os)) hB) (Nat.le_trans hB (X0.out.trans (ext_re W0 dd os)).size) ho hk))
  have PQ := hide (fun dd os => ext_regrown (s.elPoints_m (grow (redrawn W0 dd) os) _ d A c B xs k G ng cg gs (kC.rd_ext HR.out (X0.out.trans (ext_re W0 dd os))) hok hd (hl.ext (X0.out.trans (ext_re W0 dd os)) hB) (Nat.le_trans hB (X0.out.trans (ext_re W0 dd os)).size) ho hk (hg.ext (X0.out.trans (ext_re W0 dd os)) hB) hgd))
  clear h hl ho hd hg hgd
  have c0_ := fun dd os => (B0.out.ext (ext_re W0 dd os)).cell
  generalize xs.length = n at *
  generalize baseF d xs k = Z at *
  generalize pointF d xs k gs = P at *
  have kw : IntKind.i64.wrap (Z + P) = Z + P := IntWalk.i64_in _ (by omega)
  go_enter Tryz.func63, Tryz.ntmps63
  go_wp2
  rw [← hW0.out]
  clear hW0
  refine wp_region_quiet_below (by kernel_rfl) (by kernel_rfl) ?_
  repeat (go_big_quiet_step (first | (go_at_call 52; exact PQ.out _ _) | (go_at_call 90; exact BQ.out _ _)))
  refine wpQuiet_nil ?_
  intro _ hw'
  obtain ⟨⟨dq, osq⟩, hw''⟩ := hw'
  subst hw''
  have Y2 := hide (X0.out.trans (ext_re W0 dq osq))
  clear c0_ kw
  generalize grow (redrawn W0 dq) osq = w2 at *
  go_wp2
  go_ret
  exact ⟨rfl, Y2.out⟩

set_option maxRecDepth 100000 in
set_option maxHeartbeats 2000000 in
theorem s.elScore_m (w : World) (v v1 v2 : Value) (d : CoD) (xs : List ItD) (m : MD) (k : Nat) (h : kC.rd w v d) (hok : kC.ok d) (hx : kIt.rd w v1 xs) (hm : kM.rd w v2 m) (hj : JOk d xs m) (hk : k < xs.length) :
    Calls Tryz.prog 41 #[v, v1, v2, .int .i64 k] w fun e w' => e = .returned (.int .i64 (scoreF d xs m k)) ∧ Ext w w' := by
  obtain ⟨Ac, nc, cc, Al, nl, cl, r, b, p, f, rfl⟩ := kC.shape h
  obtain ⟨A, c, rfl, hl⟩ := kIt.lr hx
  have HR := hide h
  obtain ⟨g, hgr, hge, hgg⟩ := hj.grades hk
  obtain ⟨Am, cm, Am', cm', rfl, hm1, _⟩ := kM.lr hm
  obtain ⟨nm, NM⟩ : ∃ z, Hid (m.1.length = z) := ⟨_, rfl⟩
  obtain ⟨nm', NM'⟩ : ∃ z, Hid (m.2.length = z) := ⟨_, rfl⟩
  have HM := hide hm
  have HM1 := hide hm1
  have b1 := hm1.1; have b2 := hm1.2.1
  have ln := hj.ln
  have h14 := hj.ls.n
  rw [NM.out, NM'.out] at HM ⊢
  rw [NM.out] at b1 ln
  clear hm hm1
  have a1 := hl.1; have a2 := hl.2.1
  obtain ⟨W0, hW0⟩ : ∃ W0, Hid (W0 = (w.alloc (.cells #[.slice Ac nc cc, .slice Al nl cl, .int .i64 r, .int .i64 b, .int .i64 p, .int .i64 f] 26)).alloc (.cells #[.slice Am nm cm, .slice Am' nm' cm'] 30)) := ⟨_, rfl⟩
  have X0 : Hid (Ext w W0) := by rw [hW0.out]; exact (Ext.alloc w _).trans (Ext.alloc _ _)
  have B0 : Hid (Blk W0 w.heap.size #[.slice Ac nc cc, .slice Al nl cl, .int .i64 r, .int .i64 b, .int .i64 p, .int .i64 f] 26) := by rw [hW0.out]; exact (Blk.new rfl _ _).alloc _
  obtain ⟨bm, om, Ak, ck, rfl, hbm, rc, rr⟩ := HM1.out.row X0.out (Nat.le_refl _) hgr.out
  have rcell := fun dd os => cell_regrown rc dd os
  have B1 : Hid (Blk W0 (w.heap.size + 1) #[.slice (some ⟨bm, om, none⟩) nm cm, .slice Am' nm' cm'] 30) := by rw [hW0.out]; exact Blk.new (by simp) _ _
  have zX := X0.out.size
  have PQ := hide (fun dd os => ext_regrown (s.elOf_m (grow (redrawn W0 dd) os) _ d A c w.heap.size xs k Ak g.length ck g (kC.rd_ext HR.out (X0.out.trans (ext_re W0 dd os))) hok hj.co (hl.ext (X0.out.trans (ext_re W0 dd os)) (Nat.le_refl _)) (X0.out.trans (ext_re W0 dd os)).size hj.ls hk (rr.ext (ext_re W0 dd os) zX).sl hgg))
  have SE : Hid (scoreF d xs m k = baseF d xs k + pointF d xs k g) := by show _ = _; unfold scoreF; rw [hge]
  have bb := baseF_bd hj.co hj.ls k
  have pb := pointF_bd hj.co xs k hgg
  clear h hx hl hj rr hgg rc hge
  obtain ⟨n, hn⟩ : ∃ n, Hid (xs.length = n) := ⟨_, rfl⟩
  rw [hn.out] at hk h14 a1 ln PQ ⊢
  have ln2 : nm ≤ n ∧ n ≤ nm := by omega
  clear ln
  have nl1 : nm ≤ 14 := by omega
  have kn : k < nm := by omega
  have ki : (k : Int) < nm := by omega
  have c0_ := fun dd os => (B0.out.ext (ext_re W0 dd os)).cell
  have c1_ := fun dd os => (B1.out.ext (ext_re W0 dd os)).cell
  obtain ⟨R, hR⟩ : ∃ R, Hid (scoreF d xs m k = R) := ⟨_, rfl⟩
  rw [hR.out] at SE ⊢
  generalize g.length = gl at *
  generalize hQ : baseF d xs k + pointF d xs k g = Q at *
  clear hQ
  go_enter Tryz.func41, Tryz.ntmps41
  go_wp2
  rw [← hW0.out]
  clear hW0
  refine wp_region_quiet_below (by kernel_rfl) (by kernel_rfl) ?_
  repeat (go_big_quiet_step ((go_at_call 63; exact PQ.out _ _)))
  refine wpQuiet_nil ?_
  intro _ hw'
  obtain ⟨⟨dq, osq⟩, hw''⟩ := hw'
  subst hw''
  have Y2 := hide (X0.out.trans (ext_re W0 dq osq))
  clear c0_ c1_ rcell
  generalize grow (redrawn W0 dq) osq = w2 at *
  go_wp2
  go_ret
  exact ⟨ret_int SE.out.symm, Y2.out⟩

set_option maxRecDepth 100000 in
set_option maxHeartbeats 2000000 in
theorem i.GradePoints_law (w : World) (v v1 v2 : Value) (d : CoD) (xs : List ItD) (m : MD) (k : Int) (h : kC.rd w v d) (hok : kC.ok d) (hx : kIt.rd w v1 xs) (hox : kIt.ok xs) (hm : kM.rd w v2 m) (hom : kM.ok m) (hk : InR k) :
    Calls Tryz.prog 15 #[v, v1, v2, .int .i64 k] w fun e w' => e = .returned (.tuple #[.int .i64 (gradePointsF d xs m k).1, .bool (gradePointsF d xs m k).2]) ∧ Ext w w' := by
  obtain ⟨Ac, nc, cc, Al, nl, cl, r, b, p, f, rfl⟩ := kC.shape h
  obtain ⟨A, c, rfl, hl⟩ := kIt.lr hx
  obtain ⟨Am, nm, cm, Am', nm', cm', rfl⟩ := kM.shape hm
  have HR := hide h
  have HX := hide hx
  have HM := hide hm
  have a1 := hl.1; have a2 := hl.2.1
  have n1 := kIt.ok_len hox
  obtain ⟨W0, hW0⟩ : ∃ W0, Hid (W0 = (w.alloc (.cells #[.slice Ac nc cc, .slice Al nl cl, .int .i64 r, .int .i64 b, .int .i64 p, .int .i64 f] 26)).alloc (.cells #[.slice Am nm cm, .slice Am' nm' cm'] 30)) := ⟨_, rfl⟩
  have X0 : Hid (Ext w W0) := by rw [hW0.out]; exact (Ext.alloc w _).trans (Ext.alloc _ _)
  have B0 : Hid (Blk W0 w.heap.size #[.slice Ac nc cc, .slice Al nl cl, .int .i64 r, .int .i64 b, .int .i64 p, .int .i64 f] 26) := by rw [hW0.out]; exact (Blk.new rfl _ _).alloc _
  have B1 : Hid (Blk W0 (w.heap.size + 1) #[.slice Am nm cm, .slice Am' nm' cm'] 30) := by rw [hW0.out]; exact Blk.new (by simp) _ _
  have HJ := hide (fun (wq : World) (xq : Ext w wq) => i.hasJudged_m wq _ _ _ d xs m (kC.rd_ext HR.out xq) hok (kIt.rd_ext HX.out xq) hox (kM.rd_ext HM.out xq) hom k hk)
  obtain ⟨F, hF⟩ : ∃ F, Hid (gradePointsF d xs m k = F) := ⟨_, rfl⟩
  rw [hF.out]
  have HL := hide hl
  clear h hx hm hl
  obtain ⟨n, hn⟩ : ∃ n, Hid (xs.length = n) := ⟨_, rfl⟩
  rw [hn.out] at HJ HX n1 a1 ⊢
  go_enter Tryz.func15, Tryz.ntmps15
  go_wp2_with fail
  rw [← hW0.out]
  clear hW0
  refine (HJ.out _ X0.out).mono ?_
  rintro e w1 ⟨rfl, x1⟩
  replace X0 := hide (X0.out.trans x1)
  replace B0 := hide (B0.out.ext x1)
  replace B1 := hide (B1.out.ext x1)
  clear x1
  have c0_ := B0.out.cell; have c1_ := B1.out.cell
  cases hh : hasJ d xs m k
  · have HF : Hid (F = (0, false)) := by show _ = _; rw [← hF.out]; simp [gradePointsF, hh]
    clear hh
    go_wp2
    go_ret2
    rw [HF.out]
    exact ⟨rfl, X0.out⟩
  obtain ⟨hj, j, rfl, hjn⟩ := hasJ_ok hh
  obtain ⟨g, hgr, hge, hgg⟩ := hj.grades hjn
  have HF : Hid (F = (pointF d xs j g, true)) := by show _ = _; rw [← hF.out]; simp [gradePointsF, hh, hge]
  obtain ⟨Bm, dm, Bm', dm', hveq, hm1, _⟩ := kM.lr HM.out
  simp only [Value.agg.injEq, Array.mk.injEq, List.cons.injEq, Value.slice.injEq, and_true] at hveq
  obtain ⟨⟨rfl, hnm, rfl⟩, -⟩ := hveq
  have b1 := hm1.1; have b2 := hm1.2.1
  have ln := hj.ln
  have h14 := hj.ls.n
  rw [← hnm] at b1 ln
  rw [hn.out] at hjn ln h14
  have ln2 : nm ≤ n ∧ n ≤ nm := by omega
  clear ln
  obtain ⟨bm, om, Ak, ck, rfl, hbm, rc, rr⟩ := hm1.row X0.out (Nat.le_refl _) hgr.out
  have rcell := fun dd os => cell_regrown rc dd os
  have zX := X0.out.size
  have PQ := hide (fun dd os => ext_regrown (i.pointsFor_m (grow (redrawn w1 dd) os) _ d A c w.heap.size xs j Ak g.length ck g (kC.rd_ext HR.out (X0.out.trans (ext_re w1 dd os))) hok hj.co (HL.out.ext (X0.out.trans (ext_re w1 dd os)) (Nat.le_refl _)) (X0.out.trans (ext_re w1 dd os)).size hj.ls (by rw [hn.out]; exact hjn) (rr.ext (ext_re w1 dd os) zX).sl hgg))
  rw [hn.out] at PQ
  clear hh hj hm1 rr hgg rc hge hnm c0_ c1_
  have nl1 : nm ≤ 14 := by omega
  have kn : j < nm := by omega
  have ki : (j : Int) < nm := by omega
  have cB := B0.out.cell; have cM := B1.out.cell
  go_wp2
  clear cB cM
  have c0_ := fun dd os => (B0.out.ext (ext_re w1 dd os)).cell
  have c1_ := fun dd os => (B1.out.ext (ext_re w1 dd os)).cell
  generalize g.length = gl at *
  generalize pointF d xs j g = P at *
  refine wp_region_quiet_below (by kernel_rfl) (by kernel_rfl) ?_
  repeat (go_big_quiet_step ((go_at_call 50; exact PQ.out _ _)))
  refine wpQuiet_nil ?_
  intro _ hw'
  obtain ⟨⟨dq, osq⟩, hw''⟩ := hw'
  subst hw''
  have Y2 := hide (X0.out.trans (ext_re w1 dq osq))
  clear c0_ c1_ rcell
  generalize grow (redrawn w1 dq) osq = w2 at *
  go_wp2
  go_ret2
  rw [HF.out]
  exact ⟨rfl, Y2.out⟩

set_option maxRecDepth 100000 in
set_option maxHeartbeats 2000000 in
theorem s.GradePoints_law (w : World) (v v1 v2 : Value) (d : CoD) (xs : List ItD) (m : MD) (k : Int) (h : kC.rd w v d) (hok : kC.ok d) (hx : kIt.rd w v1 xs) (hox : kIt.ok xs) (hm : kM.rd w v2 m) (hom : kM.ok m) (hk : InR k) :
    Calls Tryz.prog 16 #[v, v1, v2, .int .i64 k] w fun e w' => e = .returned (.tuple #[.int .i64 (gradePointsF d xs m k).1, .bool (gradePointsF d xs m k).2]) ∧ Ext w w' := by
  obtain ⟨Ac, nc, cc, Al, nl, cl, r, b, p, f, rfl⟩ := kC.shape h
  obtain ⟨A, c, rfl, hl⟩ := kIt.lr hx
  obtain ⟨Am, nm, cm, Am', nm', cm', rfl⟩ := kM.shape hm
  have HR := hide h
  have HX := hide hx
  have HM := hide hm
  have a1 := hl.1; have a2 := hl.2.1
  have n1 := kIt.ok_len hox
  obtain ⟨W0, hW0⟩ : ∃ W0, Hid (W0 = (w.alloc (.cells #[.slice Ac nc cc, .slice Al nl cl, .int .i64 r, .int .i64 b, .int .i64 p, .int .i64 f] 26)).alloc (.cells #[.slice Am nm cm, .slice Am' nm' cm'] 30)) := ⟨_, rfl⟩
  have X0 : Hid (Ext w W0) := by rw [hW0.out]; exact (Ext.alloc w _).trans (Ext.alloc _ _)
  have B0 : Hid (Blk W0 w.heap.size #[.slice Ac nc cc, .slice Al nl cl, .int .i64 r, .int .i64 b, .int .i64 p, .int .i64 f] 26) := by rw [hW0.out]; exact (Blk.new rfl _ _).alloc _
  have B1 : Hid (Blk W0 (w.heap.size + 1) #[.slice Am nm cm, .slice Am' nm' cm'] 30) := by rw [hW0.out]; exact Blk.new (by simp) _ _
  have HJ := hide (fun (wq : World) (xq : Ext w wq) => s.elHas_m wq _ _ _ d xs m (kC.rd_ext HR.out xq) hok (kIt.rd_ext HX.out xq) hox (kM.rd_ext HM.out xq) hom k hk)
  obtain ⟨F, hF⟩ : ∃ F, Hid (gradePointsF d xs m k = F) := ⟨_, rfl⟩
  rw [hF.out]
  have HL := hide hl
  clear h hx hm hl
  obtain ⟨n, hn⟩ : ∃ n, Hid (xs.length = n) := ⟨_, rfl⟩
  rw [hn.out] at HJ HX n1 a1 ⊢
  go_enter Tryz.func16, Tryz.ntmps16
  go_wp2_with fail
  rw [← hW0.out]
  clear hW0
  refine (HJ.out _ X0.out).mono ?_
  rintro e w1 ⟨rfl, x1⟩
  replace X0 := hide (X0.out.trans x1)
  replace B0 := hide (B0.out.ext x1)
  replace B1 := hide (B1.out.ext x1)
  clear x1
  have c0_ := B0.out.cell; have c1_ := B1.out.cell
  cases hh : hasJ d xs m k
  · have HF : Hid (F = (0, false)) := by show _ = _; rw [← hF.out]; simp [gradePointsF, hh]
    clear hh
    go_wp2
    go_ret2
    rw [HF.out]
    exact ⟨rfl, X0.out⟩
  obtain ⟨hj, j, rfl, hjn⟩ := hasJ_ok hh
  obtain ⟨g, hgr, hge, hgg⟩ := hj.grades hjn
  have HF : Hid (F = (pointF d xs j g, true)) := by show _ = _; rw [← hF.out]; simp [gradePointsF, hh, hge]
  obtain ⟨Bm, dm, Bm', dm', hveq, hm1, _⟩ := kM.lr HM.out
  simp only [Value.agg.injEq, Array.mk.injEq, List.cons.injEq, Value.slice.injEq, and_true] at hveq
  obtain ⟨⟨rfl, hnm, rfl⟩, -⟩ := hveq
  have b1 := hm1.1; have b2 := hm1.2.1
  have ln := hj.ln
  have h14 := hj.ls.n
  rw [← hnm] at b1 ln
  rw [hn.out] at hjn ln h14
  have ln2 : nm ≤ n ∧ n ≤ nm := by omega
  clear ln
  obtain ⟨bm, om, Ak, ck, rfl, hbm, rc, rr⟩ := hm1.row X0.out (Nat.le_refl _) hgr.out
  have rcell := fun dd os => cell_regrown rc dd os
  have zX := X0.out.size
  have PQ := hide (fun dd os => ext_regrown (s.elPoints_m (grow (redrawn w1 dd) os) _ d A c w.heap.size xs j Ak g.length ck g (kC.rd_ext HR.out (X0.out.trans (ext_re w1 dd os))) hok hj.co (HL.out.ext (X0.out.trans (ext_re w1 dd os)) (Nat.le_refl _)) (X0.out.trans (ext_re w1 dd os)).size hj.ls (by rw [hn.out]; exact hjn) (rr.ext (ext_re w1 dd os) zX).sl hgg))
  rw [hn.out] at PQ
  clear hh hj hm1 rr hgg rc hge hnm c0_ c1_
  have nl1 : nm ≤ 14 := by omega
  have kn : j < nm := by omega
  have ki : (j : Int) < nm := by omega
  have cB := B0.out.cell; have cM := B1.out.cell
  go_wp2
  clear cB cM
  have c0_ := fun dd os => (B0.out.ext (ext_re w1 dd os)).cell
  have c1_ := fun dd os => (B1.out.ext (ext_re w1 dd os)).cell
  generalize g.length = gl at *
  generalize pointF d xs j g = P at *
  refine wp_region_quiet_below (by kernel_rfl) (by kernel_rfl) ?_
  repeat (go_big_quiet_step ((go_at_call 52; exact PQ.out _ _)))
  refine wpQuiet_nil ?_
  intro _ hw'
  obtain ⟨⟨dq, osq⟩, hw''⟩ := hw'
  subst hw''
  have Y2 := hide (X0.out.trans (ext_re w1 dq osq))
  clear c0_ c1_ rcell
  generalize grow (redrawn w1 dq) osq = w2 at *
  go_wp2
  go_ret2
  rw [HF.out]
  exact ⟨rfl, Y2.out⟩

set_option maxRecDepth 100000 in
set_option maxHeartbeats 2000000 in
theorem i.ItemScore_law (w : World) (v v1 v2 : Value) (d : CoD) (xs : List ItD) (m : MD) (k : Int) (h : kC.rd w v d) (hok : kC.ok d) (hx : kIt.rd w v1 xs) (hox : kIt.ok xs) (hm : kM.rd w v2 m) (hom : kM.ok m) (hk : InR k) :
    Calls Tryz.prog 19 #[v, v1, v2, .int .i64 k] w fun e w' => e = .returned (.tuple #[.int .i64 (itemScoreF d xs m k).1, .bool (itemScoreF d xs m k).2]) ∧ Ext w w' := by
  obtain ⟨Ac, nc, cc, Al, nl, cl, r, b, p, f, rfl⟩ := kC.shape h
  obtain ⟨A, c, rfl, hl⟩ := kIt.lr hx
  obtain ⟨Am, nm, cm, Am', nm', cm', rfl⟩ := kM.shape hm
  have HR := hide h
  have HX := hide hx
  have HM := hide hm
  have a1 := hl.1; have a2 := hl.2.1
  have n1 := kIt.ok_len hox
  obtain ⟨W0, hW0⟩ : ∃ W0, Hid (W0 = (w.alloc (.cells #[.slice Ac nc cc, .slice Al nl cl, .int .i64 r, .int .i64 b, .int .i64 p, .int .i64 f] 26)).alloc (.cells #[.slice Am nm cm, .slice Am' nm' cm'] 30)) := ⟨_, rfl⟩
  have X0 : Hid (Ext w W0) := by rw [hW0.out]; exact (Ext.alloc w _).trans (Ext.alloc _ _)
  have B0 : Hid (Blk W0 w.heap.size #[.slice Ac nc cc, .slice Al nl cl, .int .i64 r, .int .i64 b, .int .i64 p, .int .i64 f] 26) := by rw [hW0.out]; exact (Blk.new rfl _ _).alloc _
  have B1 : Hid (Blk W0 (w.heap.size + 1) #[.slice Am nm cm, .slice Am' nm' cm'] 30) := by rw [hW0.out]; exact Blk.new (by simp) _ _
  have HJ := hide (fun (wq : World) (xq : Ext w wq) => i.hasJudged_m wq _ _ _ d xs m (kC.rd_ext HR.out xq) hok (kIt.rd_ext HX.out xq) hox (kM.rd_ext HM.out xq) hom k hk)
  obtain ⟨F, hF⟩ : ∃ F, Hid (itemScoreF d xs m k = F) := ⟨_, rfl⟩
  rw [hF.out]
  have HL := hide hl
  clear h hx hm hl
  obtain ⟨n, hn⟩ : ∃ n, Hid (xs.length = n) := ⟨_, rfl⟩
  rw [hn.out] at HJ HX n1 a1 ⊢
  go_enter Tryz.func19, Tryz.ntmps19
  go_wp2_with fail
  rw [← hW0.out]
  clear hW0
  refine (HJ.out _ X0.out).mono ?_
  rintro e w1 ⟨rfl, x1⟩
  replace X0 := hide (X0.out.trans x1)
  replace B0 := hide (B0.out.ext x1)
  replace B1 := hide (B1.out.ext x1)
  clear x1
  have c0_ := B0.out.cell; have c1_ := B1.out.cell
  cases hh : hasJ d xs m k
  · have HF : Hid (F = (0, false)) := by show _ = _; rw [← hF.out]; simp [itemScoreF, hh]
    clear hh
    go_wp2
    go_ret2
    rw [HF.out]
    exact ⟨rfl, X0.out⟩
  obtain ⟨hj, j, rfl, hjn⟩ := hasJ_ok hh
  have HF : Hid (F = (scoreF d xs m j, true)) := by show _ = _; rw [← hF.out]; simp [itemScoreF, hh]
  have CS := hide (i.itemScore_m w1 _ _ _ d xs m j (kC.rd_ext HR.out X0.out) hok (kIt.rd_ext (by rw [← hn.out] at HX; exact HX.out) X0.out) (kM.rd_ext HM.out X0.out) hj hjn)
  rw [hn.out] at CS
  clear hh hj
  go_wp2_with fail
  clear c0_ c1_
  refine CS.out.mono ?_
  rintro e w2 ⟨rfl, x1⟩
  replace X0 := hide (X0.out.trans x1)
  clear x1
  go_wp2
  go_ret2
  rw [HF.out]
  exact ⟨rfl, X0.out⟩

set_option maxRecDepth 100000 in
set_option maxHeartbeats 2000000 in
theorem s.ItemScore_law (w : World) (v v1 v2 : Value) (d : CoD) (xs : List ItD) (m : MD) (k : Int) (h : kC.rd w v d) (hok : kC.ok d) (hx : kIt.rd w v1 xs) (hox : kIt.ok xs) (hm : kM.rd w v2 m) (hom : kM.ok m) (hk : InR k) :
    Calls Tryz.prog 32 #[v, v1, v2, .int .i64 k] w fun e w' => e = .returned (.tuple #[.int .i64 (itemScoreF d xs m k).1, .bool (itemScoreF d xs m k).2]) ∧ Ext w w' := by
  obtain ⟨Ac, nc, cc, Al, nl, cl, r, b, p, f, rfl⟩ := kC.shape h
  obtain ⟨A, c, rfl, hl⟩ := kIt.lr hx
  obtain ⟨Am, nm, cm, Am', nm', cm', rfl⟩ := kM.shape hm
  have HR := hide h
  have HX := hide hx
  have HM := hide hm
  have a1 := hl.1; have a2 := hl.2.1
  have n1 := kIt.ok_len hox
  obtain ⟨W0, hW0⟩ : ∃ W0, Hid (W0 = (w.alloc (.cells #[.slice Ac nc cc, .slice Al nl cl, .int .i64 r, .int .i64 b, .int .i64 p, .int .i64 f] 26)).alloc (.cells #[.slice Am nm cm, .slice Am' nm' cm'] 30)) := ⟨_, rfl⟩
  have X0 : Hid (Ext w W0) := by rw [hW0.out]; exact (Ext.alloc w _).trans (Ext.alloc _ _)
  have B0 : Hid (Blk W0 w.heap.size #[.slice Ac nc cc, .slice Al nl cl, .int .i64 r, .int .i64 b, .int .i64 p, .int .i64 f] 26) := by rw [hW0.out]; exact (Blk.new rfl _ _).alloc _
  have B1 : Hid (Blk W0 (w.heap.size + 1) #[.slice Am nm cm, .slice Am' nm' cm'] 30) := by rw [hW0.out]; exact Blk.new (by simp) _ _
  have HJ := hide (fun (wq : World) (xq : Ext w wq) => s.elHas_m wq _ _ _ d xs m (kC.rd_ext HR.out xq) hok (kIt.rd_ext HX.out xq) hox (kM.rd_ext HM.out xq) hom k hk)
  obtain ⟨F, hF⟩ : ∃ F, Hid (itemScoreF d xs m k = F) := ⟨_, rfl⟩
  rw [hF.out]
  have HL := hide hl
  clear h hx hm hl
  obtain ⟨n, hn⟩ : ∃ n, Hid (xs.length = n) := ⟨_, rfl⟩
  rw [hn.out] at HJ HX n1 a1 ⊢
  go_enter Tryz.func32, Tryz.ntmps32
  go_wp2_with fail
  rw [← hW0.out]
  clear hW0
  refine (HJ.out _ X0.out).mono ?_
  rintro e w1 ⟨rfl, x1⟩
  replace X0 := hide (X0.out.trans x1)
  replace B0 := hide (B0.out.ext x1)
  replace B1 := hide (B1.out.ext x1)
  clear x1
  have c0_ := B0.out.cell; have c1_ := B1.out.cell
  cases hh : hasJ d xs m k
  · have HF : Hid (F = (0, false)) := by show _ = _; rw [← hF.out]; simp [itemScoreF, hh]
    clear hh
    go_wp2
    go_ret2
    rw [HF.out]
    exact ⟨rfl, X0.out⟩
  obtain ⟨hj, j, rfl, hjn⟩ := hasJ_ok hh
  have HF : Hid (F = (scoreF d xs m j, true)) := by show _ = _; rw [← hF.out]; simp [itemScoreF, hh]
  have CS := hide (s.elScore_m w1 _ _ _ d xs m j (kC.rd_ext HR.out X0.out) hok (kIt.rd_ext (by rw [← hn.out] at HX; exact HX.out) X0.out) (kM.rd_ext HM.out X0.out) hj hjn)
  rw [hn.out] at CS
  clear hh hj
  go_wp2_with fail
  clear c0_ c1_
  refine CS.out.mono ?_
  rintro e w2 ⟨rfl, x1⟩
  replace X0 := hide (X0.out.trans x1)
  clear x1
  go_wp2
  go_ret2
  rw [HF.out]
  exact ⟨rfl, X0.out⟩
end Go.Proofs.YtaoeomgehpdedaaGreat
