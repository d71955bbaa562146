/- The best elements, greedily, by the program. -/
import Derived.Test.YtcnpbaldnhfebaaBB
import Derived.Deep.DeepCutAuto
namespace Go.Proofs.Ytcnpbaldnhfebaa
open Go.RowKit Go.Sort
set_option linter.unusedVariables false

theorem grdF_snoc {fam lim : Nat → Nat} {n x : Nat} : ∀ (l out : List Nat), grdF fam lim n (l ++ [x]) out = if (grdF fam lim n l out).length < n ∧ 0 < roomF fam lim (grdF fam lim n l out) (fam x) then grdF fam lim n l out ++ [x] else grdF fam lim n l out
  | [], out => by
    show grdF fam lim n [x] out = _
    unfold grdF
    show (if _ then grdF fam lim n [] _ else grdF fam lim n [] _) = _
    rfl
  | y :: t, out => by
    rw [List.cons_append]
    unfold grdF
    split
    · exact grdF_snoc t _
    · exact grdF_snoc t _
/-- The greedy choice along the first k of a list. -/
def grK (d : CoD) (n : Nat) (M : List Nat) (k : Nat) : List Nat := grdF (famE d) (limE d) n (M.take k) []
theorem grK_zero (d : CoD) (n : Nat) (M : List Nat) : grK d n M 0 = [] := rfl
theorem grK_yes {d : CoD} {n : Nat} {M : List Nat} {k x : Nat} (h : M[k]? = some x) (h1 : (grK d n M k).length < n) (h2 : 0 < roomF (famE d) (limE d) (grK d n M k) (famE d x)) : grK d n M (k + 1) = grK d n M k ++ [x] := by
  obtain ⟨hk, rfl⟩ := List.getElem?_eq_some_iff.1 h
  unfold grK at *
  rw [List.take_succ_eq_append_getElem hk, grdF_snoc, if_pos ⟨h1, h2⟩]
theorem grK_no {d : CoD} {n : Nat} {M : List Nat} {k x : Nat} (h : M[k]? = some x) (h1 : ¬ ((grK d n M k).length < n ∧ 0 < roomF (famE d) (limE d) (grK d n M k) (famE d x))) : grK d n M (k + 1) = grK d n M k := by
  obtain ⟨hk, rfl⟩ := List.getElem?_eq_some_iff.1 h
  unfold grK at *
  rw [List.take_succ_eq_append_getElem hk, grdF_snoc, if_neg h1]
theorem grK_len {d : CoD} {n : Nat} {M : List Nat} : ∀ k, k ≤ M.length → (grK d n M k).length ≤ n := by
  intro k
  induction k with
  | zero => intro _; simp [grK_zero]
  | succ k ih =>
    intro hk
    have h1 := ih (by omega)
    have hx : M[k]? = some (M[k]'(by omega)) := List.getElem?_eq_getElem (by omega)
    by_cases h : (grK d n M k).length < n ∧ 0 < roomF (famE d) (limE d) (grK d n M k) (famE d (M[k]'(by omega)))
    · rw [grK_yes hx h.1 h.2, List.length_append, List.length_singleton]; omega
    · rw [grK_no hx h]; exact h1
theorem grK_all {d : CoD} {n : Nat} {M : List Nat} (hp : M.Perm (List.range d.1.length)) (hs : M.Pairwise (befF (basE d))) : grK d n M M.length = chosF d n := by
  unfold grK chosF chF
  rw [List.take_length]
  refine (choosF_grd M n [] hs (fun i hi _ _ => hp.mem_iff.2 (List.mem_range.2 hi)) (fun x hx => ⟨by simp, List.mem_range.1 (hp.mem_iff.1 hx)⟩) (by simp)).symm
/-- How many each family has so far. -/
def ctL (d : CoD) (out : List Nat) : List Int := (List.range 5).map (fun f => ((cntF (famE d) f out : Nat) : Int))
theorem ctL_len (d : CoD) (out : List Nat) : (ctL d out).length = 5 := by simp [ctL]
theorem ctL_at (d : CoD) (out : List Nat) {f : Nat} (hf : f < 5) : (ctL d out).getD f 0 = ((cntF (famE d) f out : Nat) : Int) := by
  unfold ctL
  rw [List.getD_eq_getElem?_getD, List.getElem?_map, List.getElem?_range hf]
  rfl
theorem ctL_nil (d : CoD) : ctL d [] = List.replicate 5 0 := rfl
theorem ctL_snoc (d : CoD) (out : List Nat) {i f : Nat} (h : famE d i = f) (hf : f < 5) : ctL d (out ++ [i]) = (ctL d out).set f (((cntF (famE d) f out : Nat) : Int) + 1) := by
  apply List.ext_getElem?
  intro j
  rw [List.getElem?_set, ctL_len]
  unfold ctL
  rw [List.getElem?_map, List.getElem?_map]
  by_cases hj : j < 5
  · rw [List.getElem?_range hj]
    simp only [Option.map_some]
    rw [cntF_snoc]
    by_cases hk : f = j
    · subst hk
      rw [if_pos rfl, if_pos hf, if_pos h]
      simp
    · rw [if_neg hk, if_neg (by omega)]
      simp
  · rw [List.getElem?_eq_none (l := List.range 5) (by simp; omega), if_neg (by omega)]
    rfl
theorem cntF_le_len (fam : Nat → Nat) (f : Nat) (l : List Nat) : cntF fam f l ≤ l.length := List.length_filter_le _ _
theorem room_cnt {d : CoD} (hd : CodeOk d) {out : List Nat} {f : Nat} (hf : f < 5) : 0 < roomF (famE d) (limE d) out f ↔ ((cntF (famE d) f out : Nat) : Int) < d.2.1.getD f 0 := by
  have h := (limE_eq hd hf).1
  unfold roomF
  omega
/-- The best elements in increasing order. -/
def bestL (d : CoD) (n : Nat) : List Int := (sortD (intL (chosF d n))).reverse

theorem make5 (w : World) : (Instr.makeSlice 23 (.int .i64 5) (.int .i64 5)).run Try.prog w = .ok (.slice (some ⟨w.heap.size, 0, none⟩) 5 5) (w.alloc (.cells #[.int .i64 0, .int .i64 0, .int .i64 0, .int .i64 0, .int .i64 0] 3)) := by
  obtain ⟨i0, hi, hz0, hz1, hz2⟩ := info_parts info_int
  have h := run_make (P := Try.prog) w 23 3 i0 _ Try.underlying23 hi hz0 .i64 .i64 5 5 (by omega) (by omega) (by rw [hz2]; omega) (by omega)
  rw [hz1] at h
  have e : madeCells (Value.int .i64 0).cells (Int.toNat 5 * 1) = #[.int .i64 0, .int .i64 0, .int .i64 0, .int .i64 0, .int .i64 0] := by
    apply Array.ext'
    show (madeCells #[Value.int .i64 0] 5).toList = _
    rw [made_zeroR]
    rfl
  rw [e] at h
  exact h
theorem own5 (w : World) (lo : Nat) (hlo : lo ≤ w.heap.size) : OwnI 3 (w.alloc (.cells #[.int .i64 0, .int .i64 0, .int .i64 0, .int .i64 0, .int .i64 0] 3)) lo (some ⟨w.heap.size, 0, none⟩) 5 5 (List.replicate 5 0) :=
  World.ownsRow_lit w #[.int .i64 0, .int .i64 0, .int .i64 0, .int .i64 0, .int .i64 0] 5 hlo (by unfold maxLen; omega) rfl
abbrev c5 : Array Value := #[.int .i64 0, .int .i64 0, .int .i64 0, .int .i64 0, .int .i64 0]
theorem litMake (d : CoD) (w : World) : OwnI 3 ((w.alloc (.cells #[] 3)).alloc (.cells c5 3)).drew w.heap.size (some ⟨w.heap.size, 0, none⟩) 0 0 (intL []) ∧ OwnI 3 ((w.alloc (.cells #[] 3)).alloc (.cells c5 3)).drew w.heap.size (some ⟨w.heap.size + 1, 0, none⟩) 5 5 (ctL d []) ∧ w.heap.size ≠ w.heap.size + 1 ∧ Ext w ((w.alloc (.cells #[] 3)).alloc (.cells c5 3)).drew := by
  have h := own5 (w.alloc (.cells #[] 3)) w.heap.size (by simp)
  rw [World.size_alloc] at h
  exact ⟨Own.alloc (Own.empty w 3 (Nat.le_refl _)) _, h, by omega, ((Ext.alloc w _).trans (Ext.alloc _ _)).trans (Ext.drew _)⟩
theorem makeLit (d : CoD) (w : World) : OwnI 3 ((w.alloc (.cells c5 3)).alloc (.cells #[] 3)).drew w.heap.size (some ⟨w.heap.size + 1, 0, none⟩) 0 0 (intL []) ∧ OwnI 3 ((w.alloc (.cells c5 3)).alloc (.cells #[] 3)).drew w.heap.size (some ⟨w.heap.size, 0, none⟩) 5 5 (ctL d []) ∧ w.heap.size + 1 ≠ w.heap.size ∧ Ext w ((w.alloc (.cells c5 3)).alloc (.cells #[] 3)).drew := by
  have h : OwnI 3 ((w.alloc (.cells c5 3)).alloc (.cells #[] 3)) w.heap.size (some ⟨(w.alloc (.cells c5 3)).heap.size, 0, none⟩) 0 0 (intL []) := Own.empty (w.alloc (.cells c5 3)) 3 (by simp)
  rw [World.size_alloc] at h
  exact ⟨h, Own.alloc (own5 w w.heap.size (Nat.le_refl _)) _, by omega, ((Ext.alloc w _).trans (Ext.alloc _ _)).trans (Ext.drew _)⟩
set_option maxRecDepth 100000 in
set_option maxHeartbeats 4000000 in
theorem i.bestNames_m (w : World) (v : Value) (d : CoD) (n : Nat) (h : kC.rd w v d) (hd : CodeOk d) (hn : n ≤ 14) :
    Calls Try.prog 29 #[v, .int .i64 n] w fun e w' => ∃ A' c', e = .returned (.slice A' (chosF d n).length c') ∧ OwnI 3 w' w.heap.size A' (chosF d n).length c' (bestL d n) ∧ Ext w w' := by
  obtain ⟨Ac, cc, Al, cl, rfl, hle, hll⟩ := kC.lr h
  obtain ⟨F, hF⟩ : ∃ F, Hid (chosF d n = F) := ⟨_, rfl⟩
  unfold bestL
  rw [hF.out]
  obtain ⟨nc, NC⟩ : ∃ z, Hid (d.1.length = z) := ⟨_, rfl⟩
  have l5 := hd.lim
  have h24 := hd.n2
  have h1 := hd.n1
  obtain ⟨r, RN⟩ : ∃ z, Hid (d.2.2.1 = z) := ⟨_, rfl⟩
  obtain ⟨b, BN⟩ : ∃ z, Hid (d.2.2.2.1 = z) := ⟨_, rfl⟩
  obtain ⟨p, PN⟩ : ∃ z, Hid (d.2.2.2.2.1 = z) := ⟨_, rfl⟩
  obtain ⟨f, FN⟩ : ∃ z, Hid (d.2.2.2.2.2 = z) := ⟨_, rfl⟩
  rw [NC.out, l5, RN.out, BN.out, PN.out, FN.out]
  have HL := hide hle
  have a1 := hle.1; have a2 := hle.2.1
  rw [NC.out] at a1 h24 h1
  have b1 := hll.1; have b2 := hll.2.1
  have SL := hide hll.sl
  rw [l5] at SL b1
  have HC := hide hd
  clear h hd hle hll l5
  obtain ⟨W0, hW0⟩ : ∃ W0, Hid (W0 = w.alloc (.cells #[.slice Ac nc cc, .slice Al 5 cl, .int .i64 r, .int .i64 b, .int .i64 p, .int .i64 f] 31)) := ⟨_, rfl⟩
  have X0 : Hid (Ext w W0) := by rw [hW0.out]; exact Ext.alloc w _
  have B0 : Hid (Blk W0 w.heap.size #[.slice Ac nc cc, .slice Al 5 cl, .int .i64 r, .int .i64 b, .int .i64 p, .int .i64 f] 31) := by rw [hW0.out]; exact Blk.new rfl _ _
  have II := hide (indices_m nc W0 (by omega))
  have SO := hide (fun (wq : World) (xq : Ext W0 wq) (g c : Nat) (o : OwnI 3 wq W0.heap.size (some ⟨g, 0, none⟩) nc c (intL (List.range nc))) (hg : W0.heap.size ≤ g) => sortNames_m W0 wq w.heap.size w.heap.size d B0.out NC.out (HL.out.ext X0.out (Nat.le_refl _)) X0.out.size HC.out xq g c W0.heap.size nc (List.range nc) o hg (fun i hi => List.mem_range.1 hi) List.pairwise_lt_range (by omega) (by omega))
  have c0 := B0.out.cell
  rw [hW0.out] at c0
  have z0 := X0.out.size
  have z1 := B0.out.lt
  go_enter Try.func29, Try.ntmps29
  go_wp2_with fail
  rw [← hW0.out]
  clear hW0 c0
  refine II.out.mono ?_
  rintro e w1 ⟨A1, c1, rfl, o1, x1⟩
  obtain ⟨g1, rfl, hg1, hg2, hg3⟩ := OwnI.pos o1 (by omega)
  have S1 := hide (SO.out w1 x1 g1 c1 o1 hg1)
  clear SO II o1 x1
  go_wp2_with fail
  refine S1.out.mono ?_
  rintro e w2 ⟨rfl, M, pM, tM, o2, x2, g2⟩
  have O2 := hide o2
  have X2 := hide x2
  have lM : Hid (M.length = nc) := by show _ = _; rw [pM.length_eq, List.length_range]
  rw [← NC.out] at pM
  have GA : Hid (grK d n M nc = F) := by show _ = _; rw [← lM.out, grK_all pM tM, hF.out]
  rw [NC.out] at pM
  have PM := hide pM
  have B2 := hide (B0.out.ext x2)
  have x2s : w1.heap.size ≤ w2.heap.size := g2.size
  clear pM tM o2 x2 S1 hF g2
  go_upto_region 3 with fail
  go_cut [6, 7] (fun s6 s7 wx => ∃ (g5 g7 c5 : Nat), s6 = .slice (some ⟨g5, 0, none⟩) 0 c5 ∧ s7 = .slice (some ⟨g7, 0, none⟩) 5 5 ∧ OwnI 3 wx w2.heap.size (some ⟨g5, 0, none⟩) 0 c5 (intL []) ∧ OwnI 3 wx w2.heap.size (some ⟨g7, 0, none⟩) 5 5 (ctL d []) ∧ g5 ≠ g7 ∧ Ext w2 wx)
  case first =>
    have mk := make5
    have LM := hide (litMake d w2)
    have ML := hide (makeLit d w2)
    go_region
    all_goals
      go_wp2
      go_meet
      first
      | exact ⟨w2.heap.size, w2.heap.size + 1, 0, rfl, rfl, LM.out⟩
      | exact ⟨w2.heap.size + 1, w2.heap.size, 0, rfl, rfl, ML.out⟩
  case rest =>
    obtain ⟨g5, g7, c0, rfl, rfl, o5, o7, hne, x3⟩ := hcut
    rename World => w3
    have O5 := hide o5
    have O7 := hide o7
    have X3 := hide x3
    have B3 := hide (B2.out.ext x3)
    have O3 := hide (OwnI.below O2.out x3 (Nat.le_refl _))
    have G0 : Hid ((grK d n M 0).length = 0) := rfl
    have E0 : Hid (Ext W0 w3) := X2.out.trans x3
    have g71 : w2.heap.size ≤ g7 := by
      rcases o7.form with ⟨q, _⟩ | ⟨g', q, q1, _, _⟩
      · cases q
      · injection q with q; injection q with q; omega
    have g51 : w2.heap.size ≤ g5 := by
      rcases o5.form with ⟨q, _⟩ | ⟨g', q, q1, _, _⟩
      · cases q
      · injection q with q; injection q with q; omega
    have g12 : g1 < w2.heap.size := by have := x2s; omega
    clear o5 o7 x3 O3 B3
    go_wp2
    go_loopw [6, 22] (fun s6 s22 wr => ∃ (k m g5 c5 : Nat), s22 = .int .i64 k ∧ s6 = .slice (some ⟨g5, 0, none⟩) m c5 ∧ k ≤ nc ∧ Hid ((grK d n M k).length = m) ∧ g5 ≠ g7 ∧ OwnI 3 wr w2.heap.size (some ⟨g5, 0, none⟩) m c5 (intL (grK d n M k)) ∧ OwnI 3 wr w2.heap.size (some ⟨g7, 0, none⟩) 5 5 (ctL d (grK d n M k)) ∧ Ext w2 wr) (fun _ s22 _ => nc - (intOf s22).toNat)
    case atStart => exact ⟨0, 0, g5, c0, rfl, rfl, Nat.zero_le _, rfl, hne, O5.out, O7.out, X3.out⟩
    case round =>
      clear hne O5 O7 X3 g51
      obtain ⟨k, m, g5, c5, rfl, rfl, hk, hm, hne, o5, o7, x3⟩ := hrel
      have O5 := hide o5
      have O7 := hide o7
      have HX := hide x3
      clear o5 o7 x3
      by_cases hlt : k < nc
      · have hltz : (k : Int) < (nc : Int) := by omega
        obtain ⟨P, hP⟩ : ∃ P, Hid (M[k]? = some P) := get_ex M k (by rw [lM.out]; exact hlt)
        have P1 : P < nc := List.mem_range.1 (PM.out.mem_iff.1 (List.mem_of_getElem? hP.out))
        obtain ⟨x, hxk⟩ : ∃ x, Hid (d.1[P]? = some x) := get_ex d.1 P (by rw [NC.out]; exact P1)
        have E1 := hide ((X0.out.trans X2.out).trans HX.out)
        obtain ⟨be, off, rfl, hbe, q0, q1, q2, q3, -⟩ := (HL.out.ext E1.out (Nat.le_refl _)).element P x hxk.out
        have eb := elB_ok (HC.out.els P x hxk.out)
        have FE0 := famE_eq hxk.out
        obtain ⟨fa, hfa⟩ : ∃ fa : Nat, x.2.1 = (fa : Int) := ⟨x.2.1.toNat, by omega⟩
        have f5 : fa < 5 := by omega
        have FE : Hid (famE d P = fa) := by show _ = _; rw [FE0, hfa, Int.toNat_natCast]
        rw [hfa] at q1
        have ck := HX.out.cell (p := ⟨g1, k, none⟩) g12
        rw [O2.out.cell k hlt] at ck
        have eM : (intL M).getD k 0 = (P : Int) := by unfold intL; rw [List.getD_eq_getElem?_getD, List.getElem?_map, hP.out]; rfl
        rw [eM] at ck
        have BB := hide (B2.out.ext HX.out)
        have cB := BB.out.cell
        have c7 := O7.out.cell fa f5
        rw [ctL_at d _ f5] at c7
        have rc := room_cnt HC.out (out := grK d n M k) f5
        rw [← FE.out] at rc
        have RC := hide rc
        rw [FE.out] at RC
        obtain ⟨bl, ol, rfl, hbl, hcl⟩ := SlI.cells (SL.out.ext E1.out (Nat.le_refl _)) (by omega)
        have cl1 := hcl fa f5
        have cb := cntF_le_len (famE d) fa (grK d n M k)
        have gl := grK_len (d := d) (n := n) (M := M) k (by rw [lM.out]; exact hk)
        rw [hm.out] at cb gl
        have lb := (limE_eq HC.out f5).2
        have YES := hide (fun (h1 : m < n) (h2 : ((cntF (famE d) fa (grK d n M k) : Nat) : Int) < d.2.1.getD fa 0) => grK_yes (d := d) (n := n) (M := M) (k := k) hP.out (by rw [hm.out]; exact h1) (by rw [FE.out]; exact RC.out.2 h2))
        have NO := hide (fun (h1 : ¬ (m < n ∧ ((cntF (famE d) fa (grK d n M k) : Nat) : Int) < d.2.1.getD fa 0)) => grK_no (d := d) (n := n) (M := M) (k := k) hP.out (by rw [hm.out, FE.out]; exact fun hh => h1 ⟨hh.1, RC.out.1 hh.2⟩))
        have SN := hide (ctL_snoc d (grK d n M k) FE.out f5)
        have EQ := hide (intL_snoc (grK d n M k) P)
        have cB_ := fun dd os => (BB.out.ext (ext_re wr dd os)).cell
        have c7_ := fun dd os => cell_regrown c7 dd os
        have cl_ := fun dd os => cell_regrown cl1 dd os
        clear hcl q0 q2 q3 eb hfa FE0 eM rc RC
        generalize hout : grK d n M k = out at *
        have HOUT := hide hout
        clear hout
        generalize hCe : cntF (famE d) fa out = C at *
        have HCE := hide hCe
        clear hCe
        generalize d.2.1.getD fa 0 = L at *
        have i1 : (P : Int) < nc := by omega
        have i2 : (fa : Int) < 5 := by omega
        obtain ⟨BV, hBV⟩ : ∃ BV : Bool, Hid ((decide (m < n) && decide ((C : Int) < L)) = BV) := ⟨_, rfl⟩
        go_upto_region 8 with fail
        clear ck q1 cB c7 cl1
        go_cut [47] (fun sb wx => sb = .bool BV ∧ Ext wr wx)
        case first =>
          by_cases h1 : m < n
          · have h1z : (m : Int) < (n : Int) := by omega
            by_cases h2 : (C : Int) < L
            · have BV1 : Hid (BV = true) := by show _ = _; rw [← hBV.out, decide_eq_true h1, decide_eq_true h2]; rfl
              refine wp_region_quiet_below (by kernel_rfl) (by kernel_rfl) ?_
              repeat (go_big_quiet_step (fail))
              refine wpQuiet_nil ?_
              intro _ hw'
              obtain ⟨⟨dq, osq⟩, hw''⟩ := hw'
              subst hw''
              go_wp2
              go_meet
              exact ⟨by rw [BV1.out], ext_re wr dq osq⟩
            · have BV1 : Hid (BV = false) := by show _ = _; rw [← hBV.out, decide_eq_false h2, Bool.and_false]
              refine wp_region_quiet_below (by kernel_rfl) (by kernel_rfl) ?_
              repeat (go_big_quiet_step (fail))
              refine wpQuiet_nil ?_
              intro _ hw'
              obtain ⟨⟨dq, osq⟩, hw''⟩ := hw'
              subst hw''
              go_wp2
              go_meet
              exact ⟨by rw [BV1.out], ext_re wr dq osq⟩
          · have h1z : ¬ (m : Int) < (n : Int) := by omega
            have BV1 : Hid (BV = false) := by show _ = _; rw [← hBV.out, decide_eq_false h1]; rfl
            refine wp_region_quiet_below (by kernel_rfl) (by kernel_rfl) ?_
            repeat (go_big_quiet_step (fail))
            refine wpQuiet_nil ?_
            intro _ hw'
            obtain ⟨⟨dq, osq⟩, hw''⟩ := hw'
            subst hw''
            go_wp2
            go_meet
            exact ⟨by rw [BV1.out], ext_re wr dq osq⟩
        case rest =>
          obtain ⟨rfl, xq⟩ := hcut
          rename World => w5
          clear cB_ c7_ cl_
          have O5w := hide (OwnI.below O5.out xq (Nat.le_refl _))
          have O7w := hide (OwnI.below O7.out xq (Nat.le_refl _))
          have HXw := hide (HX.out.trans xq)
          have l5w : Hid (∀ p, p < wr.heap.size → p < w5.heap.size) := fun p hp => Nat.lt_of_lt_of_le hp xq.size
          have g7w : g7 < wr.heap.size := by
            rcases O7.out.form with ⟨q, _⟩ | ⟨g', q, _, q2, _⟩
            · cases q
            · injection q with q; injection q with q; omega
          have g7v := l5w.out _ g7w
          clear xq O5 O7 HX
          cases BV with
          | false =>
            have hb := hBV.out
            have NN := hide (NO.out (by simpa using hb))
            clear YES NO hb hBV
            go_wp2
            go_roundw
            case rel => exact ⟨k + 1, m, g5, c5, by go_num, rfl, by omega, by show _ = _; rw [NN.out]; exact hm.out, hne, by rw [NN.out]; exact O5w.out, by rw [NN.out]; exact O7w.out, HXw.out⟩
            case measure => simp [intOf]; omega
          | true =>
            have hb := hBV.out
            simp only [Bool.and_eq_true, decide_eq_true_eq] at hb
            have hmn := hb.1
            have NN := hide (YES.out hb.1 hb.2)
            clear YES NO hb hBV
            have cap := O5w.out.capn
            have c2w := HXw.out.size
            obtain ⟨IL, hIL⟩ : ∃ IL, Hid (intL out = IL) := ⟨_, rfl⟩
            rw [hIL.out] at O5w EQ
            go_wp2_with (at_builtin; refine wpList_append_sl rfl (.tmp 48) (.tmp 50) rfl elem_int rfl rfl (lo := w2.heap.size) (Own.alloc O5w.out (.cells #[.int .i64 P] 3)) (Sl.one w5 (.int .i64 P) 3) (one_int _) ?c1 ?c2 ?c3 ?_)
            case c1 => omega
            case c2 => omega
            case c3 => simp; omega
            intro A9 c9 w9 hap
            have XE := hide (hap.ext (HXw.out.trans (Ext.alloc w5 _)) (Own.fromLo O5w.out))
            have O9 : Hid (OwnI 3 w9 w2.heap.size A9 (m + 1) c9 (intL (out ++ [P]))) := own_conv hap.own (Nat.le_refl _) rfl EQ.out
            obtain ⟨g9, rfl, hg9, hg9', -⟩ := OwnI.pos O9.out (by omega)
            have n97 : g9 ≠ g7 := by
              have h := hap.where_
              simp only [Option.map_some, Option.some.injEq, World.size_alloc] at h
              rcases h with h | h <;> omega
            have O7a : Hid (OwnI 3 w9 w2.heap.size (some ⟨g7, 0, none⟩) 5 5 (ctL d out)) := Own.keepBlk (Own.alloc O7w.out (.cells #[.int .i64 P] 3)) (fun p hp => by
              injection hp with hp
              subst hp
              refine hap.grew.block g7 (by simp; omega) ?_
              intro hh
              simp at hh
              exact hne hh.symm)
            have c7a := O7a.out.cell fa f5
            rw [ctL_at d _ f5, HCE.out] at c7a
            have f7a := O7a.out.free fa
            have O7n : Hid (OwnI 3 (w9.setCell ⟨g7, fa, none⟩ (.int .i64 ((C : Int) + 1))) w2.heap.size (some ⟨g7, 0, none⟩) 5 5 (ctL d (out ++ [P]))) := by
              rw [SN.out]
              exact OwnI.set O7a.out fa _
            have O9n : Hid (OwnI 3 (w9.setCell ⟨g7, fa, none⟩ (.int .i64 ((C : Int) + 1))) w2.heap.size (some ⟨g9, 0, none⟩) (m + 1) c9 (intL (out ++ [P]))) := Own.far O9.out (fun a ha => by injection ha with ha; subst ha; exact n97) _
            have XEn : Hid (Ext w2 (w9.setCell ⟨g7, fa, none⟩ (.int .i64 ((C : Int) + 1)))) := Below.setCell XE.out (by show _ ≤ g7; omega) _
            clear hap O9 O7a XE
            go_wp2
            clear c7a f7a
            generalize w9.setCell ⟨g7, fa, none⟩ (.int .i64 ((C : Int) + 1)) = w6 at *
            go_roundw
            case rel => exact ⟨k + 1, m + 1, g9, c9, by go_num, rfl, by omega, by show _ = _; rw [NN.out, List.length_append, hm.out]; rfl, n97, by rw [NN.out]; exact O9n.out, by rw [NN.out]; exact O7n.out, XEn.out⟩
            case measure => simp [intOf]; omega
      · have hltz : ¬ (k : Int) < (nc : Int) := by omega
        have ek : k = nc := by omega
        subst ek
        rw [GA.out] at O5 hm
        have hm' := hm.out
        have gl := grK_len (d := d) (n := n) (M := M) k (by rw [lM.out]; exact hk)
        rw [GA.out] at gl
        subst hm'
        have E1 := hide ((X0.out.trans X2.out).trans HX.out)
        have zz := (X0.out.trans X2.out).size
        have SC := hide (sortOwn_any g5 c5 w2.heap.size F.length (intL F) wr O5.out (by omega))
        go_wp2_with (go_at_call 55; refine SC.out.mono ?_; rintro e w' ⟨rfl, o6, gr⟩)
        go_ret
        have g51 : w2.heap.size ≤ g5 := by
          rcases O5.out.form with ⟨q, _⟩ | ⟨g', q, q1, _, _⟩
          · cases q
          · injection q with q; injection q with q; omega
        exact ⟨_, _, rfl, OwnI.lower o6 zz, E1.out.grown gr E1.out.size (by simp; omega)⟩
end Go.Proofs.Ytcnpbaldnhfebaa
