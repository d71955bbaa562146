/- Points and scores of judged items. -/
import Derived.Test.YtcmoedjcokkdcaaGreatRN
namespace Go.Proofs.YtcmoedjcokkdcaaGreat
open Go.RowKit Go.Sort
set_option linter.unusedVariables false

def gradesAt (m : MD) (k : Nat) : List Int := m.1.getD k []
def scoreF (d : CoD) (xs : List ItD) (m : MD) (k : Nat) : Int := baseF d xs k + pointF d xs k (gradesAt m k)
def hasJ (d : CoD) (xs : List ItD) (m : MD) (k : Int) : Bool := judgedB d xs m && inB 0 ((xs.length : Int) - 1) k
def gradePointsF (d : CoD) (xs : List ItD) (m : MD) (k : Int) : Int × Bool := if hasJ d xs m k then (pointF d xs k.toNat (gradesAt m k.toNat), true) else (0, false)
def itemScoreF (d : CoD) (xs : List ItD) (m : MD) (k : Int) : Int × Bool := if hasJ d xs m k then (scoreF d xs m k.toNat, true) else (0, false)
theorem hasJ_ok {d : CoD} {xs : List ItD} {m : MD} {k : Int} (h : hasJ d xs m k = true) : JOk d xs m ∧ ∃ j : Nat, k = j ∧ j < xs.length := by
  simp only [hasJ, Bool.and_eq_true] at h
  have h2 := h.2
  simp only [inB, Bool.and_eq_true, decide_eq_true_eq] at h2
  exact ⟨jOk h.1, k.toNat, by omega, by omega⟩
theorem JOk.grades {d : CoD} {xs : List ItD} {m : MD} (h : JOk d xs m) {k : Nat} (hk : k < xs.length) : ∃ x, Hid (m.1[k]? = some x) ∧ gradesAt m k = x ∧ goodMarks x = true := by
  have hl : k < m.1.length := by rw [h.ln]; exact hk
  exact ⟨m.1[k], List.getElem?_eq_getElem hl, getD_some (List.getElem?_eq_getElem hl), h.row (List.getElem?_eq_getElem hl)⟩
theorem scoreF_bd {d : CoD} {xs : List ItD} {m : MD} (h : JOk d xs m) {k : Nat} (hk : k < xs.length) : -300010000 ≤ scoreF d xs m k ∧ scoreF d xs m k ≤ 300010000 := by
  obtain ⟨x, _, e, hg⟩ := h.grades hk
  have h1 := baseF_bd h.co h.ls k
  have h2 := pointF_bd h.co xs k (gs := gradesAt m k) (by rw [e]; exact hg)
  unfold scoreF
  omega

set_option maxRecDepth 100000 in
set_option maxHeartbeats 2000000 in
theorem i.itemScore_m (w : World) (v v1 v2 : Value) (d : CoD) (xs : List ItD) (m : MD) (k : Nat) (h : kC.rd w v d) (hok : kC.ok d) (hx : kIt.rd w v1 xs) (hm : kM.rd w v2 m) (hj : JOk d xs m) (hk : k < xs.length) :
    Calls Tryz.prog 71 #[v, v1, v2, .int .i64 k] w fun e w' => e = .returned (.int .i64 (scoreF d xs m k)) ∧ Ext w w' := by
  obtain ⟨Ac, nc, cc, Al, nl, cl, r, b, p, f, rfl⟩ := kC.shape h
  obtain ⟨A, c, rfl, hl⟩ := kIt.lr hx
  have HR := hide h
  obtain ⟨g, hgr, hge, hgg⟩ := hj.grades hk
  obtain ⟨Am, cm, Am', cm', rfl, hm1, _⟩ := kM.lr hm
  obtain ⟨nm, NM⟩ : ∃ z, Hid (m.1.length = z) := ⟨_, rfl⟩
  obtain ⟨nm', NM'⟩ : ∃ z, Hid (m.2.length = z) := ⟨_, rfl⟩
  have HM := hide hm
  have HM1 := hide hm1
  have b1 := hm1.1; have b2 := hm1.2.1
  have ln := hj.ln
  have h14 := hj.ls.n
  rw [NM.out, NM'.out] at HM ⊢
  rw [NM.out] at b1 ln
  clear hm hm1
  have a1 := hl.1; have a2 := hl.2.1
  obtain ⟨W0, hW0⟩ : ∃ W0, Hid (W0 = (w.alloc (.cells #[.slice Ac nc cc, .slice Al nl cl, .int .i64 r, .int .i64 b, .int .i64 p, .int .i64 f] 37)).alloc (.cells #[.slice Am nm cm, .slice Am' nm' cm'] 41)) := ⟨_, rfl⟩
  have X0 : Hid (Ext w W0) := by rw [hW0.out]; exact (Ext.alloc w _).trans (Ext.alloc _ _)
  have B0 : Hid (Blk W0 w.heap.size #[.slice Ac nc cc, .slice Al nl cl, .int .i64 r, .int .i64 b, .int .i64 p, .int .i64 f] 37) := by rw [hW0.out]; exact (Blk.new rfl _ _).alloc _
  obtain ⟨bm, om, Ak, ck, rfl, hbm, rc, rr⟩ := HM1.out.row X0.out (Nat.le_refl _) hgr.out
  have rcell := fun dd os => cell_regrown rc dd os
  have B1 : Hid (Blk W0 (w.heap.size + 1) #[.slice (some ⟨bm, om, none⟩) nm cm, .slice Am' nm' cm'] 41) := by rw [hW0.out]; exact Blk.new (by simp) _ _
  have zX := X0.out.size
  have PQ := hide (fun dd os => ext_regrown (i.pointsFor_m (grow (redrawn W0 dd) os) _ d A c w.heap.size xs k Ak g.length ck g (kC.rd_ext HR.out (X0.out.trans (ext_re W0 dd os))) hok hj.co (hl.ext (X0.out.trans (ext_re W0 dd os)) (Nat.le_refl _)) (X0.out.trans (ext_re W0 dd os)).size hj.ls hk (rr.ext (ext_re W0 dd os) zX).sl hgg))
  have BQ := hide (fun dd os => ext_regrown (i.itemBase_m (grow (redrawn W0 dd) os) _ d A c w.heap.size xs k (kC.rd_ext HR.out (X0.out.trans (ext_re W0 dd os))) hok hj.co (hl.ext (X0.out.trans (ext_re W0 dd os)) (Nat.le_refl _)) (X0.out.trans (ext_re W0 dd os)).size hj.ls hk))
  have SE : Hid (scoreF d xs m k = baseF d xs k + pointF d xs k g) := by show _ = _; unfold scoreF; rw [hge]
  have bb := baseF_bd hj.co hj.ls k
  have pb := pointF_bd hj.co xs k hgg
  clear h hx hl hj rr hgg rc hge
  obtain ⟨n, hn⟩ : ∃ n, Hid (xs.length = n) := ⟨_, rfl⟩
  rw [hn.out] at hk h14 a1 ln PQ BQ ⊢
  have ln2 : nm ≤ n ∧ n ≤ nm := by omega
  clear ln
  have nl1 : nm ≤ 14 := by omega
  have kn : k < nm := by omega
  have ki : (k : Int) < nm := by omega
  have c0_ := fun dd os => (B0.out.ext (ext_re W0 dd os)).cell
  have c1_ := fun dd os => (B1.out.ext (ext_re W0 dd os)).cell
  obtain ⟨R, hR⟩ : ∃ R, Hid (scoreF d xs m k = R) := ⟨_, rfl⟩
  rw [hR.out] at SE ⊢
  generalize g.length = gl at *
  generalize baseF d xs k = Z at *
  generalize pointF d xs k g = P at *
  have kw : IntKind.i64.wrap (Z + P) = Z + P := IntWalk.i64_in _ (by omega)
  go_enter Tryz.func71, Tryz.ntmps71
  go_wp2
  rw [← hW0.out]
  clear hW0
  refine wp_region_quiet_below (by kernel_rfl) (by kernel_rfl) ?_
  repeat (go_big_quiet_step (first | (go_at_call 39; exact PQ.out _ _) | (go_at_call 38; exact BQ.out _ _)))
  refine wpQuiet_nil ?_
  intro _ hw'
  obtain ⟨⟨dq, osq⟩, hw''⟩ := hw'
  subst hw''
  have Y2 := hide (X0.out.trans (ext_re W0 dq osq))
  clear c0_ c1_ rcell kw
  generalize grow (redrawn W0 dq) osq = w2 at *
  go_wp2
  go_ret
  exact ⟨ret_int SE.out.symm, Y2.out⟩

set_option maxRecDepth 100000 in
set_option maxHeartbeats 2000000 in
theorem s.elOf_m (w : World) (v : Value) (d : CoD) (A : Option Addr) (c B : Nat) (xs : List ItD) (k : Nat) (G : Option Addr) (ng cg : Nat) (gs : List Int) (h : kC.rd w v d) (hok : kC.ok d) (hd : CodeOk d) (hl : LR kdItem w B A c xs) (hB : B ≤ w.heap.size) (ho : LsOk d xs) (hk : k < xs.length) (hg : SlI w B G ng gs) (hgd : goodMarks gs = true) :
    Calls Tryz.prog 30 #[v, .slice A xs.length c, .int .i64 k, .slice G ng cg] w fun e w' => e = .returned (.int .i64 (baseF d xs k + pointF d xs k gs)) ∧ Ext w w' := by
  obtain ⟨Ac, nc, cc, Al, nl, cl, r, b, p, f, rfl⟩ := kC.shape h
  have HR := hide h
  have bb := baseF_bd hd ho k
  have pb := pointF_bd hd xs k hgd
  obtain ⟨W0, hW0⟩ : ∃ W0, Hid (W0 = w.alloc (.cells #[.slice Ac nc cc, .slice Al nl cl, .int .i64 r, .int .i64 b, .int .i64 p, .int .i64 f] 37)) := ⟨_, rfl⟩
  have X0 : Hid (Ext w W0) := by rw [hW0.out]; exact Ext.alloc w _
  have B0 : Hid (Blk W0 w.heap.size #[.slice Ac nc cc, .slice Al nl cl, .int .i64 r, .int .i64 b, .int .i64 p, .int .i64 f] 37) := by rw [hW0.out]; exact Blk.new rfl _ _
  have BQ := hide (fun dd os => ext_regrown (s.bsItem_m (grow (redrawn W0 dd) os) _ d A c B xs k (kC.rd_ext HR.out (X0.out.trans (ext_re W0 dd os))) hok hd (hl.ext (X0.out.trans (ext_re W0 dd os)) hB) (Nat.le_trans hB (X0.out.trans (ext_re W0 dd os)).size) ho hk))
  have PQ := hide (fun dd os => ext_regrown (s.elPoints_m (grow (redrawn W0 dd) os) _ d A c B xs k G ng cg gs (kC.rd_ext HR.out (X0.out.trans (ext_re W0 dd os))) hok hd (hl.ext (X0.out.trans (ext_re W0 dd os)) hB) (Nat.le_trans hB (X0.out.trans (ext_re W0 dd os)).size) ho hk (hg.ext (X0.out.trans (ext_re W0 dd os)) hB) hgd))
  clear h hl ho hd hg hgd
  have c0_ := fun dd os => (B0.out.ext (ext_re W0 dd os)).cell
  generalize xs.length = n at *
  generalize baseF d xs k = Z at *
  generalize pointF d xs k gs = P at *
  have kw : IntKind.i64.wrap (Z + P) = Z + P := IntWalk.i64_in _ (by omega)
  go_enter Tryz.func30, Tryz.ntmps30
  go_wp2
  rw [← hW0.out]
  clear hW0
  refine wp_region_quiet_below (by kernel_rfl) (by kernel_rfl) ?_
  repeat (go_big_quiet_step (first | (go_at_call 56; exact PQ.out _ _) | (go_at_call 55; exact BQ.out _ _)))
  refine wpQuiet_nil ?_
  intro _ hw'
  obtain ⟨⟨dq, osq⟩, hw''⟩ := hw'
  subst hw''
  have Y2 := hide (X0.out.trans (ext_re W0 dq osq))
  clear c0_ kw
  generalize grow (redrawn W0 dq) osq = w2 at *
  go_wp2
  go_ret
  exact ⟨rfl, Y2.out⟩

set_option maxRecDepth 100000 in
set_option maxHeartbeats 2000000 in
theorem s.elScore_m (w : World) (v v1 v2 : Value) (d : CoD) (xs : List ItD) (m : MD) (k : Nat) (h : kC.rd w v d) (hok : kC.ok d) (hx : kIt.rd w v1 xs) (hm : kM.rd w v2 m) (hj : JOk d xs m) (hk : k < xs.length) :
    Calls Tryz.prog 70 #[v, v1, v2, .int .i64 k] w fun e w' => e = .returned (.int .i64 (scoreF d xs m k)) ∧ Ext w w' := by
  obtain ⟨Ac, nc, cc, Al, nl, cl, r, b, p, f, rfl⟩ := kC.shape h
  obtain ⟨A, c, rfl, hl⟩ := kIt.lr hx
  have HR := hide h
  obtain ⟨g, hgr, hge, hgg⟩ := hj.grades hk
  obtain ⟨Am, cm, Am', cm', rfl, hm1, _⟩ := kM.lr hm
  obtain ⟨nm, NM⟩ : ∃ z, Hid (m.1.length = z) := ⟨_, rfl⟩
  obtain ⟨nm', NM'⟩ : ∃ z, Hid (m.2.length = z) := ⟨_, rfl⟩
  have HM := hide hm
  have HM1 := hide hm1
  have b1 := hm1.1; have b2 := hm1.2.1
  have ln := hj.ln
  have h14 := hj.ls.n
  rw [NM.out, NM'.out] at HM ⊢
  rw [NM.out] at b1 ln
  clear hm hm1
  have a1 := hl.1; have a2 := hl.2.1
  obtain ⟨W0, hW0⟩ : ∃ W0, Hid (W0 = (w.alloc (.cells #[.slice Ac nc cc, .slice Al nl cl, .int .i64 r, .int .i64 b, .int .i64 p, .int .i64 f] 37)).alloc (.cells #[.slice Am nm cm, .slice Am' nm' cm'] 41)) := ⟨_, rfl⟩
  have X0 : Hid (Ext w W0) := by rw [hW0.out]; exact (Ext.alloc w _).trans (Ext.alloc _ _)
  have B0 : Hid (Blk W0 w.heap.size #[.slice Ac nc cc, .slice Al nl cl, .int .i64 r, .int .i64 b, .int .i64 p, .int .i64 f] 37) := by rw [hW0.out]; exact (Blk.new rfl _ _).alloc _
  obtain ⟨bm, om, Ak, ck, rfl, hbm, rc, rr⟩ := HM1.out.row X0.out (Nat.le_refl _) hgr.out
  have rcell := fun dd os => cell_regrown rc dd os
  have B1 : Hid (Blk W0 (w.heap.size + 1) #[.slice (some ⟨bm, om, none⟩) nm cm, .slice Am' nm' cm'] 41) := by rw [hW0.out]; exact Blk.new (by simp) _ _
  have zX := X0.out.size
  have PQ := hide (fun dd os => ext_regrown (s.elOf_m (grow (redrawn W0 dd) os) _ d A c w.heap.size xs k Ak g.length ck g (kC.rd_ext HR.out (X0.out.trans (ext_re W0 dd os))) hok hj.co (hl.ext (X0.out.trans (ext_re W0 dd os)) (Nat.le_refl _)) (X0.out.trans (ext_re W0 dd os)).size hj.ls hk (rr.ext (ext_re W0 dd os) zX).sl hgg))
  have SE : Hid (scoreF d xs m k = baseF d xs k + pointF d xs k g) := by show _ = _; unfold scoreF; rw [hge]
  have bb := baseF_bd hj.co hj.ls k
  have pb := pointF_bd hj.co xs k hgg
  clear h hx hl hj rr hgg rc hge
  obtain ⟨n, hn⟩ : ∃ n, Hid (xs.length = n) := ⟨_, rfl⟩
  rw [hn.out] at hk h14 a1 ln PQ ⊢
  have ln2 : nm ≤ n ∧ n ≤ nm := by omega
  clear ln
  have nl1 : nm ≤ 14 := by omega
  have kn : k < nm := by omega
  have ki : (k : Int) < nm := by omega
  have c0_ := fun dd os => (B0.out.ext (ext_re W0 dd os)).cell
  have c1_ := fun dd os => (B1.out.ext (ext_re W0 dd os)).cell
  obtain ⟨R, hR⟩ : ∃ R, Hid (scoreF d xs m k = R) := ⟨_, rfl⟩
  rw [hR.out] at SE ⊢
  generalize g.length = gl at *
  generalize hQ : baseF d xs k + pointF d xs k g = Q at *
  clear hQ
  go_enter Tryz.func70, Tryz.ntmps70
  go_wp2
  rw [← hW0.out]
  clear hW0
  refine wp_region_quiet_below (by kernel_rfl) (by kernel_rfl) ?_
  repeat (go_big_quiet_step ((go_at_call 30; exact PQ.out _ _)))
  refine wpQuiet_nil ?_
  intro _ hw'
  obtain ⟨⟨dq, osq⟩, hw''⟩ := hw'
  subst hw''
  have Y2 := hide (X0.out.trans (ext_re W0 dq osq))
  clear c0_ c1_ rcell
  generalize grow (redrawn W0 dq) osq = w2 at *
  go_wp2
  go_ret
  exact ⟨ret_int SE.out.symm, Y2.out⟩

end Go.Proofs.YtcmoedjcokkdcaaGreat
