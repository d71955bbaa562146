/- NewSheet by the program. -/
import Derived.Test.YtofmfagdaiphaaaSA
namespace Go.Proofs.Ytofmfagdaiphaaa
open Go.RowKit Go.Sort
set_option linter.unusedVariables false

theorem TchF.trans_new {fp fp' : List Nat} {a b c : World} (h : TchF fp a b) (k : TchF fp' b c) (hs : ∀ i ∈ fp', i ∈ fp ∨ a.heap.size ≤ i) : TchF fp a c :=
  ⟨k.os.trans h.os, k.tape.trans h.tape, k.output.trans h.output, Nat.le_trans h.size k.size, fun i hi hr => (k.block i (Nat.lt_of_lt_of_le hi h.size) (fun hm => by rcases hs i hm with h1 | h1; exact hr h1; omega)).trans (h.block i hi hr)⟩
theorem get_exN {α : Type} (xs : List α) (k : Nat) (h : k < xs.length) : ∃ x, Hid (xs[k]? = some x) := ⟨xs[k], List.getElem?_eq_getElem h⟩
theorem own_snocL {e : TypeId} {w : World} {lo m c : Nat} {A : Option Addr} {zs : List Int} {z : Int} (h : Own e w lo A (m + 1) c (zs.map (Value.int .i64) ++ [.int .i64 z])) : OwnI e w lo A (m + 1) c (zs ++ [z]) := own_conv h (Nat.le_refl _) rfl (by rw [List.map_append]; rfl)
set_option maxRecDepth 100000 in
set_option maxHeartbeats 4000000 in
theorem i.NewSheet_law (w : World) (v : Value) (xs : List ItD) (hx : kIt.rd w v xs) (hok' : kIt.ok xs) :
    Calls Try.prog 16 #[v] w fun e w' => ∃ v0, e = .returned (.tuple #[v0, .bool (newF xs).2]) ∧ kSm.fr w' w.heap.size w'.heap.size v0 (newF xs).1 ∧ kSm.ok (newF xs).1 ∧ Ext w w' := by
  obtain ⟨A, c, rfl, hl⟩ := kIt_open hx
  have hw : wtL kdItem xs ≤ 1048576 := hok'
  have OKF := hide (newF_ok xs)
  have HL := hide hl
  have a1 := hl.1; have a2 := hl.2.1
  obtain ⟨F, hF⟩ : ∃ F, Hid (newF xs = F) := ⟨_, rfl⟩
  rw [hF.out] at OKF ⊢
  obtain ⟨W0, hW0⟩ : ∃ W0, Hid (W0 = w.alloc (.cells #[.slice none 0 0, .slice none 0 0, .slice none 0 0] 28)) := ⟨_, rfl⟩
  have X0 : Hid (Ext w W0) := by rw [hW0.out]; exact Ext.alloc w _
  have B0 : Hid (Blk W0 w.heap.size #[.slice none 0 0, .slice none 0 0, .slice none 0 0] 28) := by rw [hW0.out]; exact Blk.new rfl _ _
  have UM := hide (i.isUnmarked_any W0 A c w.heap.size xs (hl.ext X0.out (Nat.le_refl _)) X0.out.size hw)
  have CI := hide (fun (wq : World) (xq : Ext w wq) => i.copyItems_any wq A c w.heap.size xs (hl.ext xq (Nat.le_refl _)) xq.size hw)
  clear hx hl hok' hw
  obtain ⟨n, hn⟩ : ∃ n, Hid (xs.length = n) := ⟨_, rfl⟩
  rw [hn.out] at a1 UM CI ⊢
  go_enter Try.func16, Try.ntmps16
  go_wp2_with fail
  rw [← hW0.out]
  clear hW0
  refine UM.out.mono ?_
  rintro e w1 ⟨rfl, x1⟩
  have X1 := hide (X0.out.trans x1)
  have B1 := hide (B0.out.ext x1)
  clear x1 UM B0
  have cB := B1.out.cell; have fB := B1.out.free
  cases hc : cleanB xs
  · have HF : Hid (F = (noSheet, false)) := by show _ = _; rw [← hF.out]; simp [newF, hc]
    clear hc
    go_wp2
    refine bodyPost_ret (v := .tuple #[.agg #[.slice none 0 0, .slice none 0 0, .slice none 0 0], .bool false]) (by simp [results, Try.results16, go_sem, cB]) rfl ?_
    have hf := HF.out
    subst hf
    exact ⟨_, rfl, kSm_none _ _ _, OKF.out, Below.setCell (Below.setCell (Below.setCell X1.out (by simp) _) (by simp) _) (by simp) _⟩
  have HF : Hid (F = ((xs, List.replicate 3 (votesN xs), []), true)) := by show _ = _; rw [← hF.out]; simp [newF, hc]
  have IB := itemsB_wt (cleanB_items hc)
  have n14 := IB.1
  rw [hn.out] at n14
  have N3 := hide (fun (k : Nat) (x : ItD) (h : xs[k]? = some x) => show x.1.length ≤ 3 by
    have h1 := cleanB_items hc
    simp only [itemsB, Bool.and_eq_true, List.all_eq_true] at h1
    have := itemB_ok (h1.1 x (List.mem_of_getElem? h)); omega)
  clear hc hF IB
  go_wp2_with fail
  refine (CI.out w1 X1.out).mono ?_
  rintro e w3 ⟨A3, c3, fp3, rfl, hl3, hf3, x3⟩
  have LO3 := hide hl3
  have F3 := hide hf3
  have LT3 := hide hl3.lt
  have X3 := hide (X1.out.trans x3)
  have B3 := hide (B1.out.ext x3)
  have z3 := x3.size
  have zb := B1.out.lt
  clear hl3 hf3 x3 CI cB fB
  obtain ⟨W4, hW4⟩ : ∃ W4, Hid (W4 = ((w3.alloc (.cells #[] 43)).alloc (.cells #[] 30)).alloc (.cells #[.slice A3 n c3, .slice (some ⟨w3.heap.size, 0, none⟩) 0 0, .slice (some ⟨w3.heap.size + 1, 0, none⟩) 0 0] 28)) := ⟨_, rfl⟩
  have X34 : Hid (Ext w3 W4) := by rw [hW4.out]; exact ((Ext.alloc w3 _).trans (Ext.alloc _ _)).trans (Ext.alloc _ _)
  have zW : Hid (W4.heap.size = w3.heap.size + 3) := by rw [hW4.out]; show _ = _; simp
  have V4 : Hid (LO kdLL 43 W4 (some ⟨w3.heap.size, 0, none⟩) 0 (List.replicate 0 (votesN xs)) [w3.heap.size]) := by rw [hW4.out]; exact ((LO.emptyV w3).ext (Ext.alloc _ _)).ext (Ext.alloc _ _)
  have R4 : Hid (LO kdRv 30 W4 (some ⟨w3.heap.size + 1, 0, none⟩) 0 [] [w3.heap.size + 1]) := by
    have h := LO.emptyR (w3.alloc (.cells #[] 43))
    rw [show (w3.alloc (.cells #[] 43)).heap.size = w3.heap.size + 1 by simp] at h
    rw [hW4.out]; exact h.ext (Ext.alloc _ _)
  have S4 : Hid (Blk W4 (w3.heap.size + 2) #[.slice A3 n c3, .slice (some ⟨w3.heap.size, 0, none⟩) 0 0, .slice (some ⟨w3.heap.size + 1, 0, none⟩) 0 0] 28) := by rw [hW4.out]; exact Blk.new (by simp) _ _
  have B4 := hide (B3.out.ext X34.out)
  have X4 := hide (X3.out.trans X34.out)
  have T4 := hide (TchF.refl [w3.heap.size, w3.heap.size + 2] W4)
  go_wp2
  simp only [Nat.add_assoc, Nat.reduceAdd]
  rw [← hW4.out]
  clear hW4
  have zW1 : W4.heap.size ≤ w3.heap.size + 3 := by have := zW.out; omega
  have zW2 : w3.heap.size + 3 ≤ W4.heap.size := by have := zW.out; omega
  clear zW
  obtain ⟨g9, hg9⟩ : ∃ g, Hid (g = w3.heap.size) := ⟨_, rfl⟩
  obtain ⟨gb, hgb⟩ : ∃ g, Hid (g = w3.heap.size + 2) := ⟨_, rfl⟩
  obtain ⟨gr, hgr⟩ : ∃ g, Hid (g = w3.heap.size + 1) := ⟨_, rfl⟩
  have e9 : g9 ≤ w3.heap.size ∧ w3.heap.size ≤ g9 := by have := hg9.out; omega
  have eb : gb ≤ w3.heap.size + 2 ∧ w3.heap.size + 2 ≤ gb := by have := hgb.out; omega
  have er : gr ≤ w3.heap.size + 1 ∧ w3.heap.size + 1 ≤ gr := by have := hgr.out; omega
  rw [← hgb.out, ← hgr.out, ← hg9.out] at S4
  rw [← hg9.out] at V4
  rw [← hgr.out] at R4
  rw [← hgb.out, ← hg9.out] at T4
  rw [← hgb.out, ← hgr.out, ← hg9.out]
  clear hg9 hgb hgr
  go_loopw [18] (fun i0 wr => ∃ (k : Nat) (A5 : Option Addr) (c5 : Nat) (fpv : List Nat), k ≤ 3 ∧ i0 = .int .i64 k ∧ Blk wr gb #[.slice A3 n c3, .slice A5 k c5, .slice (some ⟨gr, 0, none⟩) 0 0] 28 ∧ LO kdLL 43 wr A5 c5 (List.replicate k (votesN xs)) fpv ∧ (∀ i ∈ fpv, i = g9 ∨ W4.heap.size ≤ i) ∧ TchF [g9, gb] W4 wr) (fun i0 _ => 3 - (intOf i0).toNat)
  case atStart => exact ⟨0, _, _, _, Nat.zero_le _, rfl, S4.out, V4.out, fun i hi => by simp at hi; exact .inl hi, T4.out⟩
  case round =>
    obtain ⟨k, A5, c5, fpv, hk, rfl, hsb, hv, hfv, ht⟩ := hrel
    clear S4 V4 T4
    have SB := hide hsb
    have HV := hide hv
    have FV := hide hfv
    have HT := hide ht
    have oc := hv.cap
    clear hsb hv hfv ht
    obtain ⟨wo, rfl⟩ : ∃ wo : World, wo = wr := ⟨_, rfl⟩
    have zo := HT.out.size
    have XO : Hid (Ext w3 wo) := X34.out.tchF HT.out (fun i hi => by simp at hi; omega)
    have XOw := hide (X3.out.trans XO.out)
    by_cases hlt : k < 3
    · have L0 := hide (LO.emptyL wo)
      have Y0 := hide (Ext.alloc wo (.cells #[] 42))
      have i3 : (k : Int) < 3 := by omega
      go_wp2
      go_loopw [5, 23] (fun o i0 wr => ∃ (j : Nat) (A6 : Option Addr) (c6 : Nat) (fp6 : List Nat), j ≤ n ∧ i0 = .int .i64 j ∧ o = .slice A6 j c6 ∧ LO kdL 42 wr A6 c6 ((votesN xs).take j) fp6 ∧ (∀ i ∈ fp6, wo.heap.size ≤ i) ∧ Ext wo wr) (fun _ i0 _ => n - (intOf i0).toNat)
      case atStart => exact ⟨0, _, _, _, Nat.zero_le _, rfl, rfl, L0.out, fun i hi => by simp at hi; omega, Y0.out⟩
      case round =>
        obtain ⟨j, A6, c6, fp6, hj, rfl, rfl, hown, hfp, hx⟩ := hrel
        clear L0 Y0
        have HO := hide hown
        have HF6 := hide hfp
        have HX := hide hx
        have od := hown.cap
        have ll : ((votesN xs).take j).length = j := by rw [List.length_take]; simp [votesN]; have := hn.out; omega
        rw [ll] at od
        have HLn := hide ll
        clear hown hx hfp ll
        obtain ⟨w5, rfl⟩ : ∃ w5 : World, w5 = wr := ⟨_, rfl⟩
        have z5 := HX.out.size
        by_cases hlj : j < n
        · obtain ⟨x, hxj⟩ : ∃ x, Hid (xs[j]? = some x) := get_exN xs j (by rw [hn.out]; exact hlj)
          obtain ⟨bb, off, A1, c1, A2, c2, rfl, hb, q0, q1, q2, -, -⟩ := (HL.out.ext (XOw.out.trans HX.out) (Nat.le_refl _)).item j x hxj.out
          have HK : Hid ((votesN xs).take (j + 1) = (votesN xs).take j ++ [List.replicate x.1.length (-1)]) := by
            obtain ⟨hj', e⟩ := List.getElem?_eq_some_iff.1 hxj.out
            show _ = _
            rw [List.take_succ_eq_append_getElem (by simpa [votesN] using hj')]
            simp [votesN, e]
          have n3 := N3.out j x hxj.out
          obtain ⟨W6, hW6⟩ : ∃ W6, Hid (W6 = (w5.alloc (.cells #[.slice A1 x.1.length c1, .slice A2 x.2.1.length c2, .bool x.2.2] 50)).alloc (.cells #[] 3)) := ⟨_, rfl⟩
          have X6 : Hid (Ext w5 W6) := by rw [hW6.out]; exact (Ext.alloc _ _).trans (Ext.alloc _ _)
          have I6 : Hid (Blk W6 w5.heap.size #[.slice A1 x.1.length c1, .slice A2 x.2.1.length c2, .bool x.2.2] 50) := by rw [hW6.out]; exact (Blk.new rfl _ _).alloc _
          have O6 : Hid (OwnI 3 W6 (w5.heap.size + 1) (some ⟨w5.heap.size + 1, 0, none⟩) 0 0 (List.replicate 0 (-1))) := by rw [hW6.out]; exact Own.emptyAt (by simp) 3 (Nat.le_refl _)
          have Y6 := hide X6.out
          obtain ⟨m, hm⟩ : ∃ m, Hid (x.1.length = m) := ⟨_, rfl⟩
          rw [hm.out] at HK n3 q0 hW6 I6
          generalize x.2.1.length = m2 at *
          generalize x.2.2 = m3 at *
          have ij : (j : Int) < n := by omega
          have cI := I6.out.cell
          rw [hW6.out] at cI
          go_wp2
          rw [← hW6.out]
          clear hW6 q0 q1 q2 cI
          go_loopw [8, 31] (fun o i0 wr => ∃ (q : Nat) (A8 : Option Addr) (c8 : Nat), q ≤ m ∧ i0 = .int .i64 q ∧ o = .slice A8 q c8 ∧ OwnI 3 wr (w5.heap.size + 1) A8 q c8 (List.replicate q (-1)) ∧ Ext w5 wr) (fun _ i0 _ => m - (intOf i0).toNat)
          case atStart => exact ⟨0, _, _, Nat.zero_le _, rfl, rfl, O6.out, Y6.out⟩
          case round =>
            obtain ⟨q, A8, c8, hq, rfl, rfl, hown, hx⟩ := hrel
            clear O6 Y6
            have O8 := hide hown
            have Y8 := hide hx
            have oe1 := hown.capn; have oe2 := hown.capm
            clear hown hx
            have z8 := Y8.out.size
            by_cases hlq : q < m
            · obtain ⟨L, hL⟩ : ∃ L, Hid (List.replicate q (-1 : Int) = L) := ⟨_, rfl⟩
              rw [hL.out] at O8
              go_wp2_with (at_builtin; refine wpList_append_sl rfl (.tmp 33) (.tmp 34) rfl elem_int rfl rfl (lo := w5.heap.size + 1) (Own.alloc O8.out (.cells #[.int .i64 (-1)] 3)) (Sl.one wr (.int .i64 (-1)) 3) (one_int _) ?c1 ?c2 ?c3 ?_)
              case c1 => omega
              case c2 => omega
              case c3 => simp <;> omega
              intro A9 c9 w9 hap
              have Y9 := hide (hap.ext (Y8.out.trans (Ext.alloc wr _)) (fun p hp => by have := Own.fromLo O8.out p hp; omega))
              have HAP := hide hap
              clear hap
              go_wp2
              go_roundw
              case rel => exact ⟨q + 1, A9, c9, by omega, by go_num, rfl, by rw [List.replicate_succ', hL.out]; exact own_snocL HAP.out.own, Y9.out⟩
              case measure => simp [intOf]; omega
            · have eq : m = q := by omega
              subst eq
              have LTo := hide HO.out.lt
              have LO1 := hide ((HO.out.ext Y8.out).ext (Ext.alloc wr (.cells #[.slice A8 m c8] 42)))
              have KO1 := hide (kdL.own_ext (own_rowL O8.out) (Ext.alloc wr (.cells #[.slice A8 m c8] 42)))
              have FL := hide (OwnI.fpLo O8.out)
              have X9 := hide ((HX.out.trans Y8.out).trans (Ext.alloc wr (.cells #[.slice A8 m c8] 42)))
              go_wp2_with (at_builtin; refine wpList_append_LO (K := kdL) rfl (.tmp 37) (.tmp 39) rfl elemN_row (by decide) HLn.out.symm rfl rfl LO1.out KO1.out ?d1 ?d2 ?d3 ?d4 ?_)
              case d1 => intro i hi hm; have := FL.out i hi; have := LTo.out i hm; omega
              case d2 =>
                intro j u hu
                cases j with
                | zero => simp at hu; subst hu; simp [World.cell?_alloc_at]
                | succ j => simp at hu
              case d3 => omega
              case d4 => omega
              intro A9 c9 w9 fp9 hap
              have HA := hide hap
              clear hap
              go_wp2
              go_roundw
              case rel =>
                refine ⟨j + 1, A9, c9, fp9, by omega, by go_num, rfl, by rw [HK.out]; exact HA.out.own, fun i hi => ?_, X9.out.tchF HA.out.tch HF6.out⟩
                have h5 := X9.out.size
                rcases HA.out.sub i hi with h | h | h
                · exact HF6.out i h
                · have := FL.out i h; omega
                · rw [h]; exact h5
              case measure => simp [intOf]; omega
        · have ej : n = j := by omega
          subst ej
          have HV6 : Hid (LO kdL 42 w5 A6 c6 (votesN xs) fp6) := by
            have h8 := HO.out
            rwa [List.take_of_length_le (by simp [votesN]; rw [hn.out]; exact Nat.le_refl _)] at h8
          have hvl : Hid (n = (votesN xs).length) := by show _ = _; simp [votesN]; exact hn.out.symm
          have SB5 := hide ((SB.out.ext HX.out).alloc (.cells #[.slice A6 n c6] 43))
          have HVw := hide ((HV.out.ext HX.out).ext (Ext.alloc w5 (.cells #[.slice A6 n c6] 43)))
          have KO1 := hide (kdLL.own_ext (own_rowLL HV6.out hvl.out) (Ext.alloc w5 (.cells #[.slice A6 n c6] 43)))
          have T5 := hide (HT.out.trans (TchF.of_ext (HX.out.trans (Ext.alloc w5 (.cells #[.slice A6 n c6] 43)))))
          have z9 : Hid ((w5.alloc (.cells #[.slice A6 n c6] 43)).heap.size = w5.heap.size + 1) := by show _ = _; simp
          have LV := hide HV.out.lt
          have rl : Hid ((List.replicate k (votesN xs)).length = k) := by show _ = _; simp
          have oc1 := oc.1; have oc2 := oc.2
          rw [rl.out] at oc1
          have cS := (SB.out.ext HX.out).cell
          have fS := (SB.out.ext HX.out).free
          have cS9 := SB5.out.cell
          have fS9 := SB5.out.free
          clear oc
          go_wp2_with (at_builtin; refine wpList_append_LO (K := kdLL) rfl (.tmp 43) (.tmp 45) rfl elemN_votes (by decide) rl.out.symm rfl rfl HVw.out KO1.out ?d1 ?d2 ?d3 ?d4 ?_)
          case d1 => intro i hi hm; have := HF6.out i hi; have := LV.out i hm; omega
          case d2 =>
            intro q u hu
            cases q with
            | zero => simp at hu; subst hu; simp [World.cell?_alloc_at]
            | succ q => simp at hu
          case d3 => omega
          case d4 => omega
          intro A10 c10 w10 fp10 hap
          clear cS fS cS9 fS9
          have gbn : gb ∉ fpv := fun hm => by rcases FV.out gb hm with h | h <;> omega
          have SB10 := hide (SB5.out.tchF hap.tch gbn)
          have cS := SB10.out.cell
          have fS := SB10.out.free
          have T10 := hide (T5.out.trans_new hap.tch (fun i hi => by rcases FV.out i hi with h | h; exact .inl (by simp [h]); exact .inr h))
          have F10 : Hid (∀ i ∈ fp10, i = g9 ∨ W4.heap.size ≤ i) := fun i hi => by
            have := z9.out
            rcases hap.sub i hi with h | h | h
            · exact FV.out i h
            · have := HF6.out i h; exact .inr (by omega)
            · exact .inr (by omega)
          have NB : Hid (∀ i ∈ fp10, i ≠ gb) := fun i hi => by rcases F10.out i hi with h | h <;> omega
          have O10 : Hid (LO kdLL 43 w10 A10 c10 (List.replicate (k + 1) (votesN xs)) fp10) := by rw [List.replicate_succ']; exact hap.own
          have ON : Hid (LO kdLL 43 (w10.setCell ⟨gb, 1, none⟩ (.slice A10 (k + 1) c10)) A10 c10 (List.replicate (k + 1) (votesN xs)) fp10) := O10.out.keep (fun i hi => Below.heap_setCell _ _ _ _ (NB.out i hi))
          have SBn : Hid (Blk (w10.setCell ⟨gb, 1, none⟩ (.slice A10 (k + 1) c10)) gb #[.slice A3 n c3, .slice A10 (k + 1) c10, .slice (some ⟨gr, 0, none⟩) 0 0] 28) := SB10.out.set 1 _
          have TN : Hid (TchF [g9, gb] W4 (w10.setCell ⟨gb, 1, none⟩ (.slice A10 (k + 1) c10))) := T10.out.trans (TchF.set1 _ _ _ (by simp))
          clear hap O10 T10
          go_wp2
          clear cS fS
          generalize w10.setCell ⟨gb, 1, none⟩ (.slice A10 (k + 1) c10) = w11 at *
          go_roundw
          case rel => exact ⟨k + 1, A10, c10, fp10, by omega, by go_num, SBn.out, ON.out, F10.out, TN.out⟩
          case measure => simp [intOf]; omega
    · have ek : k = 3 := by omega
      subst ek
      have BF := hide (B4.out.tchF HT.out (by simp; omega))
      have cB := BF.out.cell; have fB := BF.out.free
      have cS := SB.out.cell
      go_wp2
      refine bodyPost_ret (v := .tuple #[.agg #[.slice A3 n c3, .slice A5 3 c5, .slice (some ⟨gr, 0, none⟩) 0 0], .bool true]) (by simp [results, Try.results16, go_sem, cB]) rfl ?_
      have hf := HF.out
      subst hf
      have hk9 : ∀ i, i ≠ w.heap.size → (((wo.setCell ⟨w.heap.size, 0, none⟩ (.slice A3 n c3)).setCell ⟨w.heap.size, 1, none⟩ (.slice A5 3 c5)).setCell ⟨w.heap.size, 2, none⟩ (.slice (some ⟨gr, 0, none⟩) 0 0)).heap[i]? = wo.heap[i]? := by
        intro i hi
        rw [Below.heap_setCell _ _ _ _ (by simpa using hi), Below.heap_setCell _ _ _ _ (by simpa using hi), Below.heap_setCell _ _ _ _ (by simpa using hi)]
      have z1 := X1.out.size
      have l3 := (LO3.out.ext X34.out).keep (w' := wo) (fun i hi => HT.out.block i (by have := LT3.out i hi; omega) (by have := LT3.out i hi; simp; omega))
      have lr := R4.out.keep (w' := wo) (fun i hi => HT.out.block i (by simp at hi; omega) (by simp at hi; simp; omega))
      have ho := kdSh.mkOwn (d := (xs, List.replicate 3 (votesN xs), [])) (l3.keep (fun i hi => hk9 i (by have := F3.out i hi; omega))) (HV.out.keep (fun i hi => hk9 i (by rcases FV.out i hi with h | h <;> omega))) (lr.keep (fun i hi => hk9 i (by simp at hi; omega))) (fun i hi hm => by have := LT3.out i hi; rcases FV.out i hm with h | h <;> omega) (fun i hi hm => by have := LT3.out i hi; simp at hm; omega) (fun i hi hm => by simp at hm; rcases FV.out i hi with h | h <;> omega)
      have hfr := kSm_fr (lo := w.heap.size) ho (fun i hi => by
        rcases List.mem_append.1 hi with h | h
        · have := F3.out i h; omega
        · rcases List.mem_append.1 h with h | h
          · rcases FV.out i h with h | h <;> omega
          · simp at h; omega)
      simp only [hn.out, List.length_replicate, List.length_nil] at hfr
      exact ⟨_, rfl, hfr, OKF.out, Below.setCell (Below.setCell (Below.setCell XOw.out (by simp) _) (by simp) _) (by simp) _⟩
end Go.Proofs.Ytofmfagdaiphaaa
