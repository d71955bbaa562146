/- The best single programme by both. -/
import Derived.Test.YtcnpbaldnhfebaaBF
namespace Go.Proofs.Ytcnpbaldnhfebaa
open Go.RowKit Go.Sort
set_option linter.unusedVariables false

theorem sng_B {d : CoD} {n : Int} (h : (bestF d n).2 = true) : itemsB ((bestN d n.toNat).map (snI d)) = true := by
  obtain ⟨hc, n1, n2, _, l⟩ := bestF_yes h
  unfold itemsB
  rw [Bool.and_eq_true, List.all_eq_true, decide_eq_true_eq, List.length_map, bestN_len]
  refine ⟨fun x hx => ?_, by omega⟩
  obtain ⟨i, hi, rfl⟩ := List.mem_map.1 hx
  exact snI_B hc (bestN_lt i hi)
theorem sngF_B (d : CoD) (n : Int) : itemsB (sngF d n).1 = true := by
  unfold sngF
  split
  · rename_i h
    exact itemsB_order (sng_B h)
  · rfl
theorem sngF_ok (d : CoD) (n : Int) : kIt.ok (sngF d n).1 := itemsB_wt1 (sngF_B d n)
theorem elB_len {x : ElD} (h : elB x = true) : x.1.length ≤ 1048576 := by
  unfold elB nameB at h
  simp only [Bool.and_eq_true] at h
  have := inB_ok h.1.1.1.2
  omega

set_option maxRecDepth 100000 in
set_option maxHeartbeats 4000000 in
theorem i.BestSingles_m (w : World) (v : Value) (d : CoD) (n : Int) (h : kC.rd w v d) (hok : kC.ok d) :
    Calls Try.prog 16 #[v, .int .i64 n] w fun e w' => ∃ A' c' fp, e = .returned (.tuple #[.slice A' (sngF d n).1.length c', .bool (sngF d n).2]) ∧ LO kdItem 59 w' A' c' (sngF d n).1 fp ∧ (∀ i ∈ fp, w.heap.size ≤ i) ∧ Ext w w' := by
  have HR := hide h
  obtain ⟨Ac, cc, Al, cl, rfl, hle, hll⟩ := kC.lr h
  obtain ⟨F, hF⟩ : ∃ F, Hid (sngF d n = F) := ⟨_, rfl⟩
  rw [hF.out]
  obtain ⟨nc, NC⟩ : ∃ z, Hid (d.1.length = z) := ⟨_, rfl⟩
  obtain ⟨nl, NL⟩ : ∃ z, Hid (d.2.1.length = z) := ⟨_, rfl⟩
  obtain ⟨r, RN⟩ : ∃ z, Hid (d.2.2.1 = z) := ⟨_, rfl⟩
  obtain ⟨b, BN⟩ : ∃ z, Hid (d.2.2.2.1 = z) := ⟨_, rfl⟩
  obtain ⟨p, PN⟩ : ∃ z, Hid (d.2.2.2.2.1 = z) := ⟨_, rfl⟩
  obtain ⟨f, FN⟩ : ∃ z, Hid (d.2.2.2.2.2 = z) := ⟨_, rfl⟩
  rw [NC.out, NL.out, RN.out, BN.out, PN.out, FN.out] at HR ⊢
  have HL := hide hle
  have a1 := hle.1; have a2 := hle.2.1
  rw [NC.out] at a1
  have b1 := hll.1; have b2 := hll.2.1
  clear h hle hll
  obtain ⟨W0, hW0⟩ : ∃ W0, Hid (W0 = w.alloc (.cells #[.slice Ac nc cc, .slice Al nl cl, .int .i64 r, .int .i64 b, .int .i64 p, .int .i64 f] 31)) := ⟨_, rfl⟩
  have X0 : Hid (Ext w W0) := by rw [hW0.out]; exact Ext.alloc w _
  have B0 : Hid (Blk W0 w.heap.size #[.slice Ac nc cc, .slice Al nl cl, .int .i64 r, .int .i64 b, .int .i64 p, .int .i64 f] 31) := by rw [hW0.out]; exact Blk.new rfl _ _
  have BQ := hide (i.BestNames_m W0 _ d n (kC.rd_ext HR.out X0.out) hok)
  have SO := hide (fun (hd : CodeOk d) (wq : World) (xq : Ext W0 wq) (g c m : Nat) (js : List Nat) (o : OwnI 3 wq W0.heap.size (some ⟨g, 0, none⟩) m c (intL js)) (hg : W0.heap.size ≤ g) (hj : ∀ i ∈ js, i < nc) (hs : js.Pairwise (fun x y => x < y)) (h0 : 0 < nc) (h40 : m < 40) => sortSingles_m W0 wq w.heap.size w.heap.size d B0.out NC.out (HL.out.ext X0.out (Nat.le_refl _)) X0.out.size hd xq g c W0.heap.size m js o hg hj hs h0 h40)
  have z0 := X0.out.size
  clear hok
  go_enter Try.func16, Try.ntmps16
  go_wp2_with fail
  rw [← hW0.out]
  clear hW0
  refine BQ.out.mono ?_
  rintro e w1 ⟨A1, c1, rfl, o1, x1⟩
  have X1 := hide (X0.out.trans x1)
  cases hb : (bestF d n).2
  · have HF : Hid (F = ([], false)) := by show _ = _; rw [← hF.out]; unfold sngF; rw [hb]; rfl
    clear hb
    go_wp2
    go_ret2
    rw [HF.out]
    exact ⟨none, 0, [], rfl, LO.none_, by simp, X1.out⟩
  obtain ⟨hcd, hn1, hn14, he1, hl1⟩ := bestF_yes hb
  have HB := hide (sng_B hb)
  obtain ⟨m, rfl⟩ : ∃ m : Nat, n = m := ⟨n.toNat, by omega⟩
  rw [Int.toNat_natCast] at he1 hl1 HB
  have el : (bestF d m).1.length = m := by rw [he1]; omega
  rw [el, he1, ← bestN_int] at o1
  rw [el]
  have HF : Hid (F = (orderL d ((bestN d m).map (snI d)), true)) := by show _ = _; rw [← hF.out]; unfold sngF; rw [if_pos hb, Int.toNat_natCast]
  have HC := hide (codeB_ok hcd)
  have CB := hide hcd
  have JL : Hid ((bestN d m).length = m) := by show _ = _; rw [bestN_len]; omega
  have J1 : Hid (∀ i ∈ bestN d m, i < nc) := by rw [← NC.out]; exact bestN_lt
  have J2 := hide (bestN_sorted d m)
  have h1c := HC.out.n1
  rw [NC.out] at h1c
  have m14 : m ≤ 14 := by omega
  have m1 : 1 ≤ m := by omega
  have OI := hide (fun (M : List Nat) (hp : M.Perm (bestN d m)) (ht : M.Pairwise (befS (basE d))) => order_items CB.out bestN_lt J2.out hp ht)
  obtain ⟨g1, rfl, hg1, hg2, hg3⟩ := OwnI.pos o1 (by omega)
  have SQ := hide (SO.out HC.out w1 x1 g1 c1 m (bestN d m) o1 hg1 J1.out J2.out (by omega) (by omega))
  clear hb he1 hl1 el o1 SO BQ hF hcd x1
  go_wp2_with fail
  refine SQ.out.mono ?_
  rintro e w2 ⟨rfl, M, pM, tM, o2, x2, g2⟩
  have hl2 := hide (OI.out M pM tM)
  have lM : Hid (M.length = m) := by show _ = _; rw [pM.length_eq, JL.out]
  have MI : Hid (∀ i ∈ M, i < nc) := fun i hi => J1.out i (pM.mem_iff.1 hi)
  have O2 := hide o2
  have X2 := hide (X0.out.trans x2)
  have B2 := hide (B0.out.ext x2)
  have gs : g1 < w2.heap.size := by have := g2.size; omega
  clear pM tM o2 x2 g2 SQ OI
  go_wp2
  have zw := X2.out.size
  go_loopw [8, 25] (fun so si wr => ∃ (k : Nat) (A' : Option Addr) (c' : Nat) (fp : List Nat), k ≤ m ∧ si = .int .i64 k ∧ so = .slice A' k c' ∧ LO kdItem 59 wr A' c' ((M.take k).map (snI d)) fp ∧ (∀ i ∈ fp, w2.heap.size ≤ i) ∧ Ext w2 wr) (fun _ si _ => m - (intOf si).toNat)
  case atStart => exact ⟨0, some ⟨w2.heap.size, 0, none⟩, 0, [w2.heap.size], Nat.zero_le _, rfl, rfl, LO.emptyI w2, fun i hi => by simp at hi; omega, Ext.alloc w2 _⟩
  case round =>
    obtain ⟨k, A', c', fp, hk, rfl, rfl, hown, hfp, hx⟩ := hrel
    have HO := hide hown
    have HFP := hide hfp
    have HX := hide hx
    clear hown hx hfp
    by_cases hlt : k < m
    · have hltz : (k : Int) < (m : Int) := by omega
      obtain ⟨P, hP⟩ : ∃ P, Hid (M[k]? = some P) := get_ex M k (by rw [lM.out]; exact hlt)
      have P1 : P < nc := MI.out P (List.mem_of_getElem? hP.out)
      obtain ⟨x, hxk⟩ : ∃ x, Hid (d.1[P]? = some x) := get_ex d.1 P (by rw [NC.out]; exact P1)
      have E1 := hide (X2.out.trans HX.out)
      obtain ⟨be, off, rfl, hbe, q0, q1, q2, q3, -⟩ := (HL.out.ext E1.out (Nat.le_refl _)).element P x hxk.out
      have xl := elB_len (HC.out.els P x hxk.out)
      have ck := HX.out.cell (p := ⟨g1, k, none⟩) gs
      rw [O2.out.cell k hlt] at ck
      have eM : (intL M).getD k 0 = (P : Int) := by unfold intL; rw [List.getD_eq_getElem?_getD, List.getElem?_map, hP.out]; rfl
      rw [eM] at ck
      have cB := (B2.out.ext HX.out).cell
      have SI := hide (i.singleItem_m wr x xl)
      have HK : Hid ((M.take (k + 1)).map (snI d) = (M.take k).map (snI d) ++ [oneI x.1]) := by
        obtain ⟨hk', e⟩ := List.getElem?_eq_some_iff.1 hP.out
        show _ = _
        rw [List.take_succ_eq_append_getElem hk', e, List.map_append]
        unfold snI
        rw [List.map_singleton, getD_some hxk.out]
      have HLn : Hid (((M.take k).map (snI d)).length = k) := by show _ = _; rw [List.length_map, List.length_take, lM.out]; omega
      have LT := hide HO.out.lt
      have sz := HX.out.size
      have i1 : (P : Int) < nc := by omega
      have b1_ : (k + 1) * 56 ≤ 140737488355328 := by omega
      have b2_ : k + 1 ≤ 4611686018427387904 := by omega
      clear eM
      generalize bs x.1 = x0 at *
      generalize x.2.1 = x1 at *
      generalize x.2.2.1 = x2 at *
      generalize x.2.2.2 = x3 at *
      go_wp2_with fail
      refine SI.out.mono ?_
      rintro e w4 ⟨A3, A4, f', rfl, ho', hf', x4⟩
      have LO1 := hide ((HO.out.ext x4).ext (Ext.alloc w4 (.cells #[.slice A3 1 1, .slice A4 1 1, .bool false] 59)))
      have KO1 := hide (kdItem.own_ext ho' (Ext.alloc w4 (.cells #[.slice A3 1 1, .slice A4 1 1, .bool false] 59)))
      have D2 := hide (item_src w4 (.slice A3 1 1) (.slice A4 1 1) (.bool false) 59)
      have X4 := hide ((HX.out.trans x4).trans (Ext.alloc w4 (.cells #[.slice A3 1 1, .slice A4 1 1, .bool false] 59)))
      have FL := hide hf'
      have sz4 := x4.size
      clear ho' hf' x4 HO SI q0 q1 q2 q3 ck cB
      go_wp2_with (at_builtin; refine wpList_append_LO (K := kdItem) rfl (.tmp 29) (.tmp 36) rfl elemN_item (by decide) HLn.out.symm rfl rfl LO1.out KO1.out ?d1 D2.out b1_ b2_ ?_)
      case d1 => intro i hi hm; have := FL.out i hi; have := LT.out i hm; omega
      intro A9 c9 w9 fp9 hap
      have HA := hide hap
      clear hap
      go_wp2
      go_roundw
      case rel =>
        refine ⟨k + 1, A9, c9, fp9, by omega, by go_num, rfl, by rw [HK.out, List.map_take]; exact HA.out.own, fun i hi => ?_, X4.out.tchF HA.out.tch HFP.out⟩
        have h5 := X4.out.size
        rcases HA.out.sub i hi with h | h | h
        · exact HFP.out i h
        · have := FL.out i h; omega
        · rw [h]; exact h5
      case measure => simp [intOf]; omega
    · have ek : k = m := by omega
      subst ek
      have hltz : ¬ (k : Int) < (k : Int) := by omega
      have eT : M.take k = M := List.take_of_length_le (by rw [lM.out]; exact Nat.le_refl _)
      rw [eT] at HO
      have LL := hide (HO.out.rd)
      have lm : (M.map (snI d)).length = k := by rw [List.length_map, lM.out]
      have WT : wtL kdItem (M.map (snI d)) ≤ 1048576 := by
        refine itemsB_wt1 ?_
        unfold itemsB
        rw [Bool.and_eq_true, List.all_eq_true, decide_eq_true_eq, lm]
        refine ⟨fun x hx => ?_, by omega⟩
        obtain ⟨i, hi, rfl⟩ := List.mem_map.1 hx
        exact snI_B CB.out (by rw [NC.out]; exact MI.out i hi)
      have ML := hide (i.markLate_m wr A' c' wr.heap.size (M.map (snI d)) LL.out (Nat.le_refl _) WT)
      rw [lm, hl2.out] at ML
      have ln := orderL_len d ((bestN d k).map (snI d))
      rw [List.length_map, JL.out] at ln
      have LN := hide ln
      have zz := (X2.out.trans HX.out).size
      clear ln lm WT eT
      go_wp2_with (go_at_call 36; refine ML.out.mono ?_; rintro e w' ⟨A5, c5, fp5, rfl, l5, f5, x5⟩)
      go_ret2
      rw [HF.out]
      refine ⟨A5, c5, fp5, ?_, l5, fun i hi => Nat.le_trans zz (f5 i hi), (X2.out.trans HX.out).trans x5⟩
      exact congrArg (fun z => Ending.returned (.tuple #[.slice A5 z c5, .bool true])) LN.out.symm

set_option maxRecDepth 100000 in
set_option maxHeartbeats 4000000 in
theorem s.pnSingles_m (w : World) (v : Value) (d : CoD) (n : Int) (h : kC.rd w v d) (hok : kC.ok d) :
    Calls Try.prog 32 #[v, .int .i64 n] w fun e w' => ∃ A' c' fp, e = .returned (.tuple #[.slice A' (sngF d n).1.length c', .bool (sngF d n).2]) ∧ LO kdItem 59 w' A' c' (sngF d n).1 fp ∧ (∀ i ∈ fp, w.heap.size ≤ i) ∧ Ext w w' := by
  have HR := hide h
  obtain ⟨Ac, cc, Al, cl, rfl, hle, hll⟩ := kC.lr h
  obtain ⟨F, hF⟩ : ∃ F, Hid (sngF d n = F) := ⟨_, rfl⟩
  rw [hF.out]
  obtain ⟨nc, NC⟩ : ∃ z, Hid (d.1.length = z) := ⟨_, rfl⟩
  obtain ⟨nl, NL⟩ : ∃ z, Hid (d.2.1.length = z) := ⟨_, rfl⟩
  obtain ⟨r, RN⟩ : ∃ z, Hid (d.2.2.1 = z) := ⟨_, rfl⟩
  obtain ⟨b, BN⟩ : ∃ z, Hid (d.2.2.2.1 = z) := ⟨_, rfl⟩
  obtain ⟨p, PN⟩ : ∃ z, Hid (d.2.2.2.2.1 = z) := ⟨_, rfl⟩
  obtain ⟨f, FN⟩ : ∃ z, Hid (d.2.2.2.2.2 = z) := ⟨_, rfl⟩
  rw [NC.out, NL.out, RN.out, BN.out, PN.out, FN.out] at HR ⊢
  have HL := hide hle
  have a1 := hle.1; have a2 := hle.2.1
  rw [NC.out] at a1
  have b1 := hll.1; have b2 := hll.2.1
  clear h hle hll
  obtain ⟨W0, hW0⟩ : ∃ W0, Hid (W0 = w.alloc (.cells #[.slice Ac nc cc, .slice Al nl cl, .int .i64 r, .int .i64 b, .int .i64 p, .int .i64 f] 31)) := ⟨_, rfl⟩
  have X0 : Hid (Ext w W0) := by rw [hW0.out]; exact Ext.alloc w _
  have B0 : Hid (Blk W0 w.heap.size #[.slice Ac nc cc, .slice Al nl cl, .int .i64 r, .int .i64 b, .int .i64 p, .int .i64 f] 31) := by rw [hW0.out]; exact Blk.new rfl _ _
  have BQ := hide (s.pnNames_m W0 _ d n (kC.rd_ext HR.out X0.out) hok)
  have PO := hide (fun (hd : CodeOk d) (wq : World) (xq : Ext w wq) (A9 : Option Addr) (c9 : Nat) (ys : List ItD) (h9 : LR kdItem wq wq.heap.size A9 c9 ys) (h8 : itemsB ys = true) (h7 : ∀ x ∈ ys, ItOk d x) => s.pnOrder_m wq _ d A9 c9 wq.heap.size ys (kC.rd_ext HR.out xq) hok hd h9 (Nat.le_refl _) h8 h7)
  have z0 := X0.out.size
  clear hok
  go_enter Try.func32, Try.ntmps32
  go_wp2_with fail
  rw [← hW0.out]
  clear hW0
  refine BQ.out.mono ?_
  rintro e w1 ⟨A1, c1, rfl, o1, x1⟩
  have X1 := hide (X0.out.trans x1)
  cases hb : (bestF d n).2
  · have HF : Hid (F = ([], false)) := by show _ = _; rw [← hF.out]; unfold sngF; rw [hb]; rfl
    clear hb
    go_wp2
    go_ret2
    rw [HF.out]
    exact ⟨none, 0, [], rfl, LO.none_, by simp, X1.out⟩
  obtain ⟨hcd, hn1, hn14, he1, hl1⟩ := bestF_yes hb
  have HB := hide (sng_B hb)
  obtain ⟨m, rfl⟩ : ∃ m : Nat, n = m := ⟨n.toNat, by omega⟩
  rw [Int.toNat_natCast] at he1 hl1 HB
  have el : (bestF d m).1.length = m := by rw [he1]; omega
  rw [el, he1, ← bestN_int] at o1
  rw [el]
  have HF : Hid (F = (orderL d ((bestN d m).map (snI d)), true)) := by show _ = _; rw [← hF.out]; unfold sngF; rw [if_pos hb, Int.toNat_natCast]
  have HC := hide (codeB_ok hcd)
  have CB := hide hcd
  have JL : Hid ((bestN d m).length = m) := by show _ = _; rw [bestN_len]; omega
  have J1 : Hid (∀ i ∈ bestN d m, i < nc) := by rw [← NC.out]; exact bestN_lt
  have J2 := hide (bestN_sorted d m)
  have h1c := HC.out.n1
  rw [NC.out] at h1c
  have m14 : m ≤ 14 := by omega
  have m1 : 1 ≤ m := by omega
  obtain ⟨M, hM⟩ : ∃ M, Hid (bestN d m = M) := ⟨_, rfl⟩
  rw [hM.out] at o1 HF JL J1 J2 HB
  have lM := JL
  have MI := J1
  obtain ⟨g1, rfl, hg1, hg2, hg3⟩ := OwnI.pos o1 (by omega)
  have O2 := hide o1
  have X2 := hide X1.out
  have B2 := hide (B0.out.ext x1)
  have gs : g1 < w1.heap.size := hg2
  clear hb he1 hl1 el o1 BQ hF hcd x1 hM
  obtain ⟨w2, rfl⟩ : ∃ w2 : World, w2 = w1 := ⟨_, rfl⟩
  go_wp2
  have zw := X2.out.size
  go_loopw [8, 21] (fun so si wr => ∃ (k : Nat) (A' : Option Addr) (c' : Nat) (fp : List Nat), k ≤ m ∧ si = .int .i64 k ∧ so = .slice A' k c' ∧ LO kdItem 59 wr A' c' ((M.take k).map (snI d)) fp ∧ (∀ i ∈ fp, w2.heap.size ≤ i) ∧ Ext w2 wr) (fun _ si _ => m - (intOf si).toNat)
  case atStart => exact ⟨0, none, 0, [], Nat.zero_le _, rfl, rfl, LO.none_, by simp, Ext.refl _⟩
  case round =>
    obtain ⟨k, A', c', fp, hk, rfl, rfl, hown, hfp, hx⟩ := hrel
    have HO := hide hown
    have HFP := hide hfp
    have HX := hide hx
    clear hown hx hfp
    by_cases hlt : k < m
    · have hltz : (k : Int) < (m : Int) := by omega
      obtain ⟨P, hP⟩ : ∃ P, Hid (M[k]? = some P) := get_ex M k (by rw [lM.out]; exact hlt)
      have P1 : P < nc := MI.out P (List.mem_of_getElem? hP.out)
      obtain ⟨x, hxk⟩ : ∃ x, Hid (d.1[P]? = some x) := get_ex d.1 P (by rw [NC.out]; exact P1)
      have E1 := hide (X2.out.trans HX.out)
      obtain ⟨be, off, rfl, hbe, q0, q1, q2, q3, -⟩ := (HL.out.ext E1.out (Nat.le_refl _)).element P x hxk.out
      have xl := elB_len (HC.out.els P x hxk.out)
      have ck := HX.out.cell (p := ⟨g1, k, none⟩) gs
      rw [O2.out.cell k hlt] at ck
      have eM : (intL M).getD k 0 = (P : Int) := by unfold intL; rw [List.getD_eq_getElem?_getD, List.getElem?_map, hP.out]; rfl
      rw [eM] at ck
      have cB := (B2.out.ext HX.out).cell
      have SI := hide (s.pnItem_m wr x.1 xl)
      have HK : Hid ((M.take (k + 1)).map (snI d) = (M.take k).map (snI d) ++ [oneI x.1]) := by
        obtain ⟨hk', e⟩ := List.getElem?_eq_some_iff.1 hP.out
        show _ = _
        rw [List.take_succ_eq_append_getElem hk', e, List.map_append]
        unfold snI
        rw [List.map_singleton, getD_some hxk.out]
      have HLn : Hid (((M.take k).map (snI d)).length = k) := by show _ = _; rw [List.length_map, List.length_take, lM.out]; omega
      have LT := hide HO.out.lt
      have sz := HX.out.size
      have i1 : (P : Int) < nc := by omega
      have b1_ : (k + 1) * 56 ≤ 140737488355328 := by omega
      have b2_ : k + 1 ≤ 4611686018427387904 := by omega
      clear eM
      generalize bs x.1 = x0 at *
      generalize x.2.1 = x1 at *
      generalize x.2.2.1 = x2 at *
      generalize x.2.2.2 = x3 at *
      go_wp2_with fail
      refine SI.out.mono ?_
      rintro e w4 ⟨A3, A4, f', rfl, ho', hf', x4⟩
      have LO1 := hide ((HO.out.ext x4).ext (Ext.alloc w4 (.cells #[.slice A3 1 1, .slice A4 1 1, .bool false] 59)))
      have KO1 := hide (kdItem.own_ext ho' (Ext.alloc w4 (.cells #[.slice A3 1 1, .slice A4 1 1, .bool false] 59)))
      have D2 := hide (item_src w4 (.slice A3 1 1) (.slice A4 1 1) (.bool false) 59)
      have X4 := hide ((HX.out.trans x4).trans (Ext.alloc w4 (.cells #[.slice A3 1 1, .slice A4 1 1, .bool false] 59)))
      have FL := hide hf'
      have sz4 := x4.size
      clear ho' hf' x4 HO SI q0 q1 q2 q3 ck cB
      go_wp2_with (at_builtin; refine wpList_append_LO (K := kdItem) rfl (.tmp 25) (.tmp 33) rfl elemN_item (by decide) HLn.out.symm rfl rfl LO1.out KO1.out ?d1 D2.out b1_ b2_ ?_)
      case d1 => intro i hi hm; have := FL.out i hi; have := LT.out i hm; omega
      intro A9 c9 w9 fp9 hap
      have HA := hide hap
      clear hap
      go_wp2
      go_roundw
      case rel =>
        refine ⟨k + 1, A9, c9, fp9, by omega, by go_num, rfl, by rw [HK.out, List.map_take]; exact HA.out.own, fun i hi => ?_, X4.out.tchF HA.out.tch HFP.out⟩
        have h5 := X4.out.size
        rcases HA.out.sub i hi with h | h | h
        · exact HFP.out i h
        · have := FL.out i h; omega
        · rw [h]; exact h5
      case measure => simp [intOf]; omega
    · have ek : k = m := by omega
      subst ek
      have hltz : ¬ (k : Int) < (k : Int) := by omega
      have eT : M.take k = M := List.take_of_length_le (by rw [lM.out]; exact Nat.le_refl _)
      rw [eT] at HO
      have LL := hide (HO.out.rd)
      have lm : (M.map (snI d)).length = k := by rw [List.length_map, lM.out]
      have PQ := hide (PO.out HC.out wr (X2.out.trans HX.out) A' c' (M.map (snI d)) LL.out HB.out (fun x hx => by
        obtain ⟨i, hi, rfl⟩ := List.mem_map.1 hx
        exact snI_ok CB.out (by rw [NC.out]; exact MI.out i hi)))
      rw [lm] at PQ
      have ln := orderL_len d (M.map (snI d))
      rw [lm] at ln
      have LN := hide ln
      have zz := (X2.out.trans HX.out).size
      have cB := (B2.out.ext HX.out).cell
      clear ln lm eT
      go_wp2_with (go_at_call 59; refine PQ.out.mono ?_; rintro e w' ⟨A5, c5, fp5, rfl, l5, f5, x5⟩)
      go_ret2
      rw [HF.out]
      refine ⟨A5, c5, fp5, ?_, l5, fun i hi => Nat.le_trans zz (f5 i hi), (X2.out.trans HX.out).trans x5⟩
      exact congrArg (fun z => Ending.returned (.tuple #[.slice A5 z c5, .bool true])) LN.out.symm
end Go.Proofs.Ytcnpbaldnhfebaa
