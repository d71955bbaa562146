/- The best names: the law's two sides. -/
import Derived.Test.YtcnpbaldnhfebaaBD
import Derived.Test.YtcnpbaldnhfebaaGR
namespace Go.Proofs.Ytcnpbaldnhfebaa
open Go.RowKit Go.Sort
set_option linter.unusedVariables false

theorem choosF_ok {fam lim : Nat → Nat} {base : Nat → Int} {N n : Nat} : ∀ (q : Nat) (out : List Nat), ChOk fam lim N n out → ChOk fam lim N n (choosF fam lim base N n q out)
  | 0, out, h => h
  | q + 1, out, h => by
    unfold choosF
    split
    · rename_i hl
      split
      · exact h
      · rename_i hp
        rcases pickF_or fam lim base out N with h1 | ⟨i, h1, h2, h3, h4⟩
        · omega
        · rw [h2, Int.toNat_natCast]
          exact choosF_ok q _ (h.next h1 h3 h4 hl)
    · exact h
theorem chosF_ok (d : CoD) (n : Nat) : ChOk (famE d) (limE d) d.1.length n (chosF d n) := choosF_ok n [] ⟨List.nodup_nil, by simp, fun f => by simp [cntF], by simp⟩
def bestF (d : CoD) (n : Int) : List Int × Bool := if askB d n = true ∧ n ≤ ((chosF d n.toNat).length : Nat) then (bestL d n.toNat, true) else ([], false)
theorem bestL_len (d : CoD) (n : Nat) : (bestL d n).length = (chosF d n).length := by unfold bestL; rw [List.length_reverse, sortD_len, intL_len]
theorem bestF_len (d : CoD) (n : Int) : (bestF d n).1.length ≤ 1048576 := by
  unfold bestF
  split
  · rename_i h
    have h1 := (chosF_ok d n.toNat).len
    have h2 := h.1
    unfold askB at h2
    rw [Bool.and_eq_true] at h2
    have := inB_ok h2.2
    show (bestL d n.toNat).length ≤ _
    rw [bestL_len]
    omega
  · exact Nat.zero_le _

set_option maxRecDepth 100000 in
set_option maxHeartbeats 2000000 in
theorem s.pnNames_m (w : World) (v : Value) (d : CoD) (n : Int) (h : kC.rd w v d) (hok : kC.ok d) :
    Calls Try.prog 24 #[v, .int .i64 n] w fun e w' => ∃ A' c', e = .returned (.tuple #[.slice A' (bestF d n).1.length c', .bool (bestF d n).2]) ∧ OwnI 3 w' w.heap.size A' (bestF d n).1.length c' (bestF d n).1 ∧ Ext w w' := by
  obtain ⟨Ac, nc, cc, Al, nl, cl, r, b, p, f, rfl⟩ := kC.shape h
  obtain ⟨W0, hW0⟩ : ∃ W0, Hid (W0 = w.alloc (.cells #[.slice Ac nc cc, .slice Al nl cl, .int .i64 r, .int .i64 b, .int .i64 p, .int .i64 f] 31)) := ⟨_, rfl⟩
  have X0 : Hid (Ext w W0) := by rw [hW0.out]; exact Ext.alloc w _
  have B0 : Hid (Blk W0 w.heap.size #[.slice Ac nc cc, .slice Al nl cl, .int .i64 r, .int .i64 b, .int .i64 p, .int .i64 f] 31) := by rw [hW0.out]; exact Blk.new rfl _ _
  have CQ := hide (s.pnAsked_m W0 _ d n (kC.rd_ext h X0.out) hok)
  have CH := hide (fun (wq : World) (xq : Ext w wq) (m : Nat) (hd : CodeOk d) (hm : m ≤ 14) => s.pnChoose_m wq _ d m (kC.rd_ext h xq) hd hm)
  obtain ⟨F, hF⟩ : ∃ F, Hid (bestF d n = F) := ⟨_, rfl⟩
  rw [hF.out]
  clear h hok
  go_enter Try.func24, Try.ntmps24
  go_wp2_with fail
  rw [← hW0.out]
  clear hW0
  refine CQ.out.mono ?_
  rintro e w1 ⟨rfl, x1⟩
  have X1 := hide (X0.out.trans x1)
  have B1 := hide (B0.out.ext x1)
  clear x1 CQ X0 B0
  cases hc : askB d n
  · have HF : Hid (F = ([], false)) := by show _ = _; rw [← hF.out]; unfold bestF; rw [if_neg (by rw [hc]; simp)]
    clear hc
    go_wp2
    go_ret2
    rw [HF.out]
    exact ⟨none, 0, rfl, OwnI.nil, X1.out⟩
  have hc2 := hc
  unfold askB at hc2
  rw [Bool.and_eq_true] at hc2
  have HC := hide (codeB_ok hc2.1)
  have hb := inB_ok hc2.2
  obtain ⟨m, rfl⟩ : ∃ m : Nat, n = m := ⟨n.toNat, by omega⟩
  have n2 : m ≤ 14 := by omega
  have HF : Hid (F = if (m : Int) ≤ ((chosF d m).length : Nat) then (bestL d m, true) else ([], false)) := by
    show _ = _
    rw [← hF.out]
    unfold bestF
    rw [hc, Int.toNat_natCast]
    by_cases hh : (m : Int) ≤ ((chosF d m).length : Nat)
    · rw [if_pos ⟨rfl, hh⟩, if_pos hh]
    · rw [if_neg (fun q => hh q.2), if_neg hh]
  have BL : Hid (bestL d m = putsL (intL (chosF d m))) := by show _ = _; unfold bestL; rw [putsL_eq]
  have ND := hide (chosF_ok d m).nd
  have LE := (chosF_ok d m).len
  have CC := hide (CH.out w1 X1.out m HC.out n2)
  clear hc hc2 hb hF CH
  have cB := B1.out.cell
  go_wp2_with fail
  clear cB
  refine CC.out.mono ?_
  rintro e w2 ⟨A2, c2, rfl, o2, x2⟩
  obtain ⟨G, hG⟩ : ∃ G, Hid (chosF d m = G) := ⟨_, rfl⟩
  rw [hG.out] at o2 HF BL ND LE ⊢
  obtain ⟨q, hq⟩ : ∃ q, Hid (G.length = q) := ⟨_, rfl⟩
  rw [hq.out] at o2 HF LE ⊢
  have S2 := hide o2.sl
  have cap2 := o2.capn; have capm2 := o2.capm
  have X2 := hide (X1.out.trans x2)
  have OA : Hid (OwnI 3 w2 w.heap.size none 0 0 (putsL (intL (G.take 0)))) := OwnI.nil
  clear o2 x2 CC hG
  go_wp2
  go_loopw [6, 17] (fun s6 s17 wr => ∃ (k : Nat) (A : Option Addr) (c : Nat), k ≤ q ∧ s17 = .int .i64 k ∧ s6 = .slice A k c ∧ OwnI 3 wr w.heap.size A k c (putsL (intL (G.take k))) ∧ Ext w2 wr) (fun _ s17 _ => q - (intOf s17).toNat)
  case atStart => exact ⟨0, none, 0, Nat.zero_le _, rfl, rfl, OA.out, Ext.refl _⟩
  case round =>
    obtain ⟨k, A, c, hk, rfl, rfl, ho, hx⟩ := hrel
    have O5 := hide ho
    have HX := hide hx
    clear ho hx OA
    have zz := (X2.out.trans HX.out).size
    by_cases hlt : k < q
    · have hltz : (k : Int) < (q : Int) := by omega
      obtain ⟨P, hP⟩ : ∃ P, Hid (G[k]? = some P) := get_ex G k (by rw [hq.out]; exact hlt)
      obtain ⟨b2, off, rfl, hb2, hc2⟩ := (SlI.ext S2.out HX.out (Nat.le_refl _)).cells (by omega)
      have ck := hc2 k hlt
      have eP : (intL G).getD k 0 = (P : Int) := by unfold intL; rw [List.getD_eq_getElem?_getD, List.getElem?_map, hP.out]; rfl
      rw [eP] at ck
      obtain ⟨hk', eP'⟩ := List.getElem?_eq_some_iff.1 hP.out
      have eT : Hid (putsL (intL (G.take (k + 1))) = putL (putsL (intL (G.take k))) P) := by
        show _ = _
        rw [List.take_succ_eq_append_getElem hk', eP', ← putsL_snoc]
        unfold intL
        rw [List.map_append]
        rfl
      have nin : (P : Int) ∉ putsL (intL (G.take k)) := fun hh => by
        have h1 := (putsL_spec (intL (G.take k))).1.mem_iff.1 hh
        unfold intL at h1
        obtain ⟨j, hj, e⟩ := List.mem_map.1 h1
        have e2 : j = P := by omega
        subst e2
        have h3 := ND.out
        rw [← List.take_append_drop k G, List.nodup_append] at h3
        exact h3.2.2 j hj j (by rw [← eP', List.drop_eq_getElem_cons hk']; exact List.mem_cons_self) rfl
      have LP := hide (s.l1Put_m A k c w.heap.size (putsL (intL (G.take k))) P wr O5.out (by omega) nin)
      clear nin hc2 eP
      go_wp2_with (go_at_call 46; refine LP.out.mono ?_; rintro e w5 ⟨A5, c5, rfl, o5, x5⟩)
      rw [← eT.out] at o5
      have O6 := hide (OwnI.lower o5 zz)
      have X6 := hide (HX.out.trans x5)
      clear o5 x5
      go_roundw
      case rel => exact ⟨k + 1, A5, c5, by omega, by go_num, rfl, O6.out, X6.out⟩
      case measure => simp [intOf]; omega
    · have hltz : ¬ (k : Int) < (q : Int) := by omega
      have e : k = q := by omega
      subst e
      rw [List.take_of_length_le (by rw [hq.out]; exact Nat.le_refl _), ← BL.out] at O5
      have L9 := hide (OwnI.len O5.out)
      by_cases hh : k < m
      · have hz : (k : Int) < (m : Int) := by omega
        rw [if_neg (by omega)] at HF
        go_wp2
        go_ret2
        rw [HF.out]
        exact ⟨none, 0, rfl, OwnI.nil, X2.out.trans HX.out⟩
      · have hz : ¬ (k : Int) < (m : Int) := by omega
        rw [if_pos (by omega)] at HF
        go_wp2
        go_ret2
        rw [HF.out]
        refine ⟨A, c, ?_, ?_, X2.out.trans HX.out⟩
        · exact congrArg (fun z => Ending.returned (.tuple #[.slice A z c, .bool true])) L9.out.symm
        · show OwnI _ _ _ _ (bestL d m).length _ _
          rw [L9.out]
          exact O5.out

set_option maxRecDepth 100000 in
set_option maxHeartbeats 2000000 in
theorem s.BestNames_law (w : World) (v : Value) (d : CoD) (n : Int) (h : kC.rd w v d) (hok : kC.ok d) (_hn : InR n) :
    Calls Try.prog 7 #[v, .int .i64 n] w fun e w' => ∃ v0, e = .returned (.tuple #[v0, .bool (bestF d n).2]) ∧ kI.fr w' w.heap.size w'.heap.size v0 (bestF d n).1 ∧ kI.ok (bestF d n).1 ∧ Ext w w' := by
  have OK := bestF_len d n
  obtain ⟨Ac, nc, cc, Al, nl, cl, r, b, p, f, rfl⟩ := kC.shape h
  obtain ⟨W0, hW0⟩ : ∃ W0, Hid (W0 = w.alloc (.cells #[.slice Ac nc cc, .slice Al nl cl, .int .i64 r, .int .i64 b, .int .i64 p, .int .i64 f] 31)) := ⟨_, rfl⟩
  have X0 : Hid (Ext w W0) := by rw [hW0.out]; exact Ext.alloc w _
  have PN := hide (s.pnNames_m W0 _ d n (kC.rd_ext h X0.out) hok)
  have zz := X0.out.size
  clear h hok
  obtain ⟨F, hF⟩ : ∃ F, Hid (bestF d n = F) := ⟨_, rfl⟩
  rw [hF.out] at PN OK ⊢
  go_enter Try.func7, Try.ntmps7
  go_wp2_with fail
  rw [← hW0.out]
  clear hW0
  refine PN.out.mono ?_
  rintro e w1 ⟨A1, c1, rfl, o1, x1⟩
  have O1 := hide o1
  have X1 := hide (X0.out.trans x1)
  clear o1 x1 PN
  go_wp2
  go_ret2
  exact ⟨_, rfl, kI_of (OwnI.lower O1.out zz), OK, X1.out⟩

set_option maxRecDepth 100000 in
set_option maxHeartbeats 2000000 in
theorem i.BestNames_m (w : World) (v : Value) (d : CoD) (n : Int) (h : kC.rd w v d) (hok : kC.ok d) :
    Calls Try.prog 9 #[v, .int .i64 n] w fun e w' => ∃ A' c', e = .returned (.tuple #[.slice A' (bestF d n).1.length c', .bool (bestF d n).2]) ∧ OwnI 3 w' w.heap.size A' (bestF d n).1.length c' (bestF d n).1 ∧ Ext w w' := by
  obtain ⟨Ac, nc, cc, Al, nl, cl, r, b, p, f, rfl⟩ := kC.shape h
  obtain ⟨W0, hW0⟩ : ∃ W0, Hid (W0 = w.alloc (.cells #[.slice Ac nc cc, .slice Al nl cl, .int .i64 r, .int .i64 b, .int .i64 p, .int .i64 f] 31)) := ⟨_, rfl⟩
  have X0 : Hid (Ext w W0) := by rw [hW0.out]; exact Ext.alloc w _
  have B0 : Hid (Blk W0 w.heap.size #[.slice Ac nc cc, .slice Al nl cl, .int .i64 r, .int .i64 b, .int .i64 p, .int .i64 f] 31) := by rw [hW0.out]; exact Blk.new rfl _ _
  have CQ := hide (i.IsCode_m W0 _ d (kC.rd_ext h X0.out) hok)
  have CH := hide (fun (wq : World) (xq : Ext w wq) (m : Nat) (hd : CodeOk d) (hm : m ≤ 14) => i.bestNames_m wq _ d m (kC.rd_ext h xq) hd hm)
  obtain ⟨F, hF⟩ : ∃ F, Hid (bestF d n = F) := ⟨_, rfl⟩
  rw [hF.out]
  clear h hok
  go_enter Try.func9, Try.ntmps9
  go_wp2_with fail
  rw [← hW0.out]
  clear hW0
  refine CQ.out.mono ?_
  rintro e w1 ⟨rfl, x1⟩
  have X1 := hide (X0.out.trans x1)
  have B1 := hide (B0.out.ext x1)
  clear x1 CQ X0 B0
  cases hc : codeB d
  · have HF : Hid (F = ([], false)) := by show _ = _; rw [← hF.out]; unfold bestF askB; rw [if_neg (by rw [hc]; simp)]
    clear hc
    go_wp2
    go_ret2
    rw [HF.out]
    exact ⟨none, 0, rfl, OwnI.nil, X1.out⟩
  have HC := hide (codeB_ok hc)
  cases hi : inB 1 14 n
  · have HF : Hid (F = ([], false)) := by show _ = _; rw [← hF.out]; unfold bestF askB; rw [if_neg (by rw [hi]; simp)]
    have HI := hide hi
    clear hc hi
    go_wp2_with (go_at_call 28; refine (i.isCount_any _ _).mono ?_; rintro e w' ⟨rfl, rfl⟩; rw [HI.out])
    go_ret2
    rw [HF.out]
    exact ⟨none, 0, rfl, OwnI.nil, X1.out⟩
  have HI := hide hi
  have hb := inB_ok hi
  obtain ⟨m, rfl⟩ : ∃ m : Nat, n = m := ⟨n.toNat, by omega⟩
  have n2 : m ≤ 14 := by omega
  have HF : Hid (F = if (m : Int) ≤ ((chosF d m).length : Nat) then (bestL d m, true) else ([], false)) := by
    show _ = _
    rw [← hF.out]
    unfold bestF askB
    rw [hc, hi, Int.toNat_natCast]
    by_cases hh : (m : Int) ≤ ((chosF d m).length : Nat)
    · rw [if_pos ⟨rfl, hh⟩, if_pos hh]
    · rw [if_neg (fun q => hh q.2), if_neg hh]
  have LB := hide (bestL_len d m)
  have LE := (chosF_ok d m).len
  have CC := hide (fun (wq : World) (xq : Ext w wq) => CH.out wq xq m HC.out n2)
  have z1 := X1.out.size
  clear hc hi hb hF CH
  obtain ⟨q, hq⟩ : ∃ q, Hid ((chosF d m).length = q) := ⟨_, rfl⟩
  rw [hq.out] at HF LB LE CC
  have cB := B1.out.cell
  go_wp2_with (go_at_call 28; refine (i.isCount_any _ _).mono ?_; rintro e w' ⟨rfl, rfl⟩; rw [HI.out])
  clear cB
  refine (CC.out w1 X1.out).mono ?_
  rintro e w2 ⟨A2, c2, rfl, o2, x2⟩
  have X2 := hide (X1.out.trans x2)
  have B2 := hide (B1.out.ext x2)
  clear o2 x2
  by_cases hh : q < m
  · have hz : (q : Int) < (m : Int) := by omega
    rw [if_neg (by omega)] at HF
    go_wp2
    go_ret2
    rw [HF.out]
    exact ⟨none, 0, rfl, OwnI.nil, X2.out⟩
  · have hz : ¬ (q : Int) < (m : Int) := by omega
    rw [if_pos (by omega)] at HF
    have cB := B2.out.cell
    have z2 := X2.out.size
    go_wp2_with (go_at_call 29; refine (CC.out w2 X2.out).mono ?_; rintro e w' ⟨A3, c3, rfl, o3, x3⟩)
    go_ret2
    rw [HF.out]
    refine ⟨A3, c3, ?_, ?_, X2.out.trans x3⟩
    · exact congrArg (fun z => Ending.returned (.tuple #[.slice A3 z c3, .bool true])) LB.out.symm
    · show OwnI _ _ _ _ (bestL d m).length _ _
      rw [LB.out]
      exact OwnI.lower o3 z2
theorem i.BestNames_law (w : World) (v : Value) (d : CoD) (n : Int) (h : kC.rd w v d) (hok : kC.ok d) (_hn : InR n) :
    Calls Try.prog 9 #[v, .int .i64 n] w fun e w' => ∃ v0, e = .returned (.tuple #[v0, .bool (bestF d n).2]) ∧ kI.fr w' w.heap.size w'.heap.size v0 (bestF d n).1 ∧ kI.ok (bestF d n).1 ∧ Ext w w' :=
  (i.BestNames_m w v d n h hok).mono fun _ _ ⟨A, c, he, o, x⟩ => ⟨_, he, kI_of o, bestF_len d n, x⟩
end Go.Proofs.Ytcnpbaldnhfebaa
