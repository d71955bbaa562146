/- The walk of FnBases: drawn codes and lists; bases, families, losses, one item after the other; a drawn element's worth. -/
import Derived.Test.YtcngiipdffjkfaaEM
import Derived.Test.YtcngiipdffjkfaaER
import Derived.Deep.DeepCutAuto
namespace Go.Proofs.Ytcngiipdffjkfaa
open Go.RowKit Go.Sort
set_option linter.unusedVariables false

/-- What was drawn, read in every later world. -/
structure Drw (w1 : World) (v : Value) (A : Option Addr) (c : Nat) (d : CoD) (xs : List ItD) : Prop where
  rd : kC.rd w1 v d
  ok : kC.ok d
  lr : LR kdItem w1 w1.heap.size A c xs
  wt : wtL kdItem xs ≤ 1048576
theorem Drw.ext {w1 w2 : World} {v : Value} {A : Option Addr} {c : Nat} {d : CoD} {xs : List ItD} (h : Drw w1 v A c d xs) (k : Ext w1 w2) : Drw w2 v A c d xs := ⟨kC.rd_ext h.rd k, h.ok, (h.lr.ext k (Nat.le_refl _)).more k.size, h.wt⟩
theorem knows_good (d : CoD) (xs : List ItD) : ((knowsLaw d xs).2 && (knowsLaw d xs).1) = goodB d xs := by
  unfold knowsLaw goodB
  cases codeB d <;> cases itemsB xs <;> simp
theorem bases_ok (d : CoD) (xs : List ItD) : (basesLaw d xs).2 = goodB d xs := by
  unfold basesLaw
  split
  · next h => exact h.symm
  · next h => simpa using h

section
variable {w : World} {v : Value} {A : Option Addr} {c N : Nat} {d : CoD} {xs : List ItD}
theorem Drw.iBase (h : Drw w v A c d xs) (hN : xs.length = N) : Calls Try.prog 6 #[v, .slice A N c] w fun e w' => ∃ A' n' c', e = .returned (.tuple #[.slice A' n' c', .bool (goodB d xs)]) ∧ SlI w' w'.heap.size A' n' (basesLaw d xs).1 ∧ n' ≤ 14 ∧ n' ≤ c' ∧ c' ≤ 9223372036854775807 ∧ Ext w w' := by
  subst hN
  rw [← bases_ok]
  exact i.BaseValues_c w _ d A c xs h.rd h.ok h.lr h.wt
theorem Drw.iKnows (h : Drw w v A c d xs) (hN : xs.length = N) : Calls Try.prog 8 #[v, .slice A N c] w fun e w' => e = .returned (.tuple #[.bool (knowsLaw d xs).1, .bool (knowsLaw d xs).2]) ∧ Ext w w' := by
  subst hN
  exact i.KnowsItems_c w _ d A c xs h.rd h.ok h.lr h.wt
theorem Drw.iFam (h : Drw w v A c d xs) (hN : xs.length = N) (hg : goodB d xs = true) : Calls Try.prog 12 #[v, .slice A N c] w fun e w' => ∃ A' c', e = .returned (.tuple #[.slice A' 5 c', .bool true]) ∧ SlI w' w'.heap.size A' 5 (famN d xs xs.length) ∧ 5 ≤ c' ∧ c' ≤ 9223372036854775807 ∧ Ext w w' := by
  subst hN
  refine (i.FamilyBases_law w v _ d xs h.rd h.ok ⟨_, rfl, ⟨A, c, rfl, h.lr⟩⟩ h.wt).mono ?_
  rintro e w' ⟨v0, rfl, hf, -, hx⟩
  have e1 : famLaw d xs = (famN d xs xs.length, true) := by
    have : (codeB d && itemsB xs && knownB d.1 xs) = true := hg
    simp [famLaw, this]
  rw [e1] at hf ⊢
  obtain ⟨A', c', rfl, ho, _⟩ := hf
  have h5 : (famN d xs xs.length).length = 5 := famN_len d xs _
  have hs := ho.sl
  have k1 := ho.capn
  have k2 := ho.capm
  rw [h5] at hs k1
  exact ⟨A', c', by rw [h5], hs, k1, k2, hx⟩
theorem Drw.iLoss (h : Drw w v A c d xs) (hN : xs.length = N) (hg : goodB d xs = true) : Calls Try.prog 15 #[v, .slice A N c] w fun e w' => ∃ A' c', e = .returned (.tuple #[.slice A' N c', .bool true]) ∧ SlI w' w'.heap.size A' N (lossN d xs N) ∧ N ≤ c' ∧ c' ≤ 9223372036854775807 ∧ Ext w w' := by
  subst hN
  refine (i.MarkLosses_law w v _ d xs h.rd h.ok ⟨_, rfl, ⟨A, c, rfl, h.lr⟩⟩ h.wt).mono ?_
  rintro e w' ⟨v0, rfl, hf, -, hx⟩
  have e1 : lossLaw d xs = (lossN d xs xs.length, true) := by
    have : (codeB d && itemsB xs && knownB d.1 xs) = true := hg
    simp [lossLaw, this]
  rw [e1] at hf ⊢
  obtain ⟨A', c', rfl, ho, _⟩ := hf
  have h5 : (lossN d xs xs.length).length = xs.length := lossN_len d xs _
  have hs := ho.sl
  have k1 := ho.capn
  have k2 := ho.capm
  rw [h5] at hs k1
  exact ⟨A', c', by rw [h5], hs, k1, k2, hx⟩
theorem Drw.iRep (h : Drw w v A c d xs) (hN : xs.length = N) (hg : goodB d xs = true) {k : Nat} (hk : k < N) : Calls Try.prog 18 #[v, .slice A N c, .int .i64 k] w fun e w' => e = .returned (.tuple #[.int .i64 (repF xs k : Nat), .bool true]) ∧ Ext w w' := by
  subst hN
  exact i.RepeatsOf_v w v d A c xs k h.rd h.ok h.lr h.wt hg hk

theorem Drw.sBase (h : Drw w v A c d xs) (hN : xs.length = N) : Calls Try.prog 7 #[v, .slice A N c] w fun e w' => ∃ A' n' c', e = .returned (.tuple #[.slice A' n' c', .bool (goodB d xs)]) ∧ SlI w' w'.heap.size A' n' (basesLaw d xs).1 ∧ n' ≤ 14 ∧ n' ≤ c' ∧ c' ≤ 9223372036854775807 ∧ Ext w w' := by
  subst hN
  rw [← bases_ok]
  exact s.BaseValues_c w _ d A c xs h.rd h.ok h.lr h.wt
theorem Drw.sKnows (h : Drw w v A c d xs) (hN : xs.length = N) : Calls Try.prog 9 #[v, .slice A N c] w fun e w' => e = .returned (.tuple #[.bool (knowsLaw d xs).1, .bool (knowsLaw d xs).2]) ∧ Ext w w' := by
  subst hN
  exact s.KnowsItems_c w _ d A c xs h.rd h.ok h.lr h.wt
theorem Drw.sFam (h : Drw w v A c d xs) (hN : xs.length = N) (hg : goodB d xs = true) : Calls Try.prog 13 #[v, .slice A N c] w fun e w' => ∃ A' c', e = .returned (.tuple #[.slice A' 5 c', .bool true]) ∧ SlI w' w'.heap.size A' 5 (famN d xs xs.length) ∧ 5 ≤ c' ∧ c' ≤ 9223372036854775807 ∧ Ext w w' := by
  subst hN
  refine (s.FamilyBases_law w v _ d xs h.rd h.ok ⟨_, rfl, ⟨A, c, rfl, h.lr⟩⟩ h.wt).mono ?_
  rintro e w' ⟨v0, rfl, hf, -, hx⟩
  have e1 : famLaw d xs = (famN d xs xs.length, true) := by
    have : (codeB d && itemsB xs && knownB d.1 xs) = true := hg
    simp [famLaw, this]
  rw [e1] at hf ⊢
  obtain ⟨A', c', rfl, ho, _⟩ := hf
  have h5 : (famN d xs xs.length).length = 5 := famN_len d xs _
  have hs := ho.sl
  have k1 := ho.capn
  have k2 := ho.capm
  rw [h5] at hs k1
  exact ⟨A', c', by rw [h5], hs, k1, k2, hx⟩
theorem Drw.sLoss (h : Drw w v A c d xs) (hN : xs.length = N) (hg : goodB d xs = true) : Calls Try.prog 16 #[v, .slice A N c] w fun e w' => ∃ A' c', e = .returned (.tuple #[.slice A' N c', .bool true]) ∧ SlI w' w'.heap.size A' N (lossN d xs N) ∧ N ≤ c' ∧ c' ≤ 9223372036854775807 ∧ Ext w w' := by
  subst hN
  refine (s.MarkLosses_law w v _ d xs h.rd h.ok ⟨_, rfl, ⟨A, c, rfl, h.lr⟩⟩ h.wt).mono ?_
  rintro e w' ⟨v0, rfl, hf, -, hx⟩
  have e1 : lossLaw d xs = (lossN d xs xs.length, true) := by
    have : (codeB d && itemsB xs && knownB d.1 xs) = true := hg
    simp [lossLaw, this]
  rw [e1] at hf ⊢
  obtain ⟨A', c', rfl, ho, _⟩ := hf
  have h5 : (lossN d xs xs.length).length = xs.length := lossN_len d xs _
  have hs := ho.sl
  have k1 := ho.capn
  have k2 := ho.capm
  rw [h5] at hs k1
  exact ⟨A', c', by rw [h5], hs, k1, k2, hx⟩
theorem Drw.sRep (h : Drw w v A c d xs) (hN : xs.length = N) (hg : goodB d xs = true) {k : Nat} (hk : k < N) : Calls Try.prog 19 #[v, .slice A N c, .int .i64 k] w fun e w' => e = .returned (.tuple #[.int .i64 (repF xs k : Nat), .bool true]) ∧ Ext w w' := by
  subst hN
  exact s.RepeatsOf_v w v d A c xs k h.rd h.ok h.lr h.wt hg hk
theorem Drw.iPB (h : Drw w v A c d xs) (hN : xs.length = N) (hg : goodB d xs = true) : Calls Try.prog 11 #[v, .slice A N c] w fun e w' => e = .returned (.tuple #[.int .i64 (basesF d xs).sum, .bool true]) ∧ Ext w w' := by
  subst hN
  have e1 : pbaseLaw d xs = ((basesF d xs).sum, true) := by simp [pbaseLaw, hg]
  have := i.ProgrammeBase_c w v d A c xs h.rd h.ok h.lr h.wt
  rw [e1] at this
  exact this
theorem Drw.iIB (h : Drw w v A c d xs) (hN : xs.length = N) (hg : goodB d xs = true) {k : Nat} (hk : k < N) : Calls Try.prog 17 #[v, .slice A N c, .int .i64 k] w fun e w' => e = .returned (.tuple #[.int .i64 (baseF d xs k), .bool true]) ∧ Ext w w' := by
  subst hN
  exact i.ItemBase_v w v d A c xs k h.rd h.ok h.lr h.wt hg hk
end

set_option maxRecDepth 100000 in
set_option maxHeartbeats 20000000 in
theorem FnBases_walk (a0 : Option Addr) (n0 c0 : Nat) (a1 : Option Addr) (n1 c1 : Nat) (w : World) (h0 : ArgB w a0 n0 c0) (h1 : ArgB w a1 n1 c1) :
    Calls Try.prog 3 #[.slice a0 n0 c0, .slice a1 n1 c1] w fun e w' => e = .returned (.bool true) ∧ Ext w w' := by
  have H1 := hide h1
  have BG := hide (l.big_m a0 a1 n0 c0 n1 c1 w h0.cap h0.capm h1.cap h1.capm)
  have DR := hide (s.DrawBaseValues_m w a0 n0 c0 h0)
  clear h0 h1
  go_enter Try.func3, Try.ntmps3
  go_wp2_with fail
  refine BG.out.mono ?_
  rintro e w' ⟨rfl, rfl⟩
  clear BG
  cases hb : bigB n0 n1
  · clear hb
    go_wp2_with fail
    refine DR.out.mono ?_
    rintro e w1 ⟨A1, m1, d1, A2, m2, d2, r, bo, k, f, A, n, c, rfl, ⟨d, hd, hrd⟩, ⟨xs, rfl, hwt, -, hlr⟩, x1⟩
    have DX := hide (Drw.mk (hrd w1 (Since.refl _ _)) hd (hlr w1 (Since.refl _ _)) hwt)
    have X1 := hide x1
    clear hrd hd hlr hwt x1 DR
    obtain ⟨N, hN⟩ : ∃ N, Hid (xs.length = N) := ⟨_, rfl⟩
    rw [hN.out]
    obtain ⟨W2, hW2⟩ : ∃ W2, Hid (W2 = w1.alloc (.cells #[.slice A1 m1 d1, .slice A2 m2 d2, .int .i64 r, .int .i64 bo, .int .i64 k, .int .i64 f] 27)) := ⟨_, rfl⟩
    have xa : Ext w1 W2 := by rw [hW2.out]; exact Ext.alloc _ _
    obtain ⟨g5, hg5⟩ : ∃ g5, Hid (g5 = w1.heap.size) := ⟨_, rfl⟩
    have P5 : Hid (Blk W2 g5 #[.slice A1 m1 d1, .slice A2 m2 d2, .int .i64 r, .int .i64 bo, .int .i64 k, .int .i64 f] 27) := by rw [hW2.out, hg5.out]; exact Blk.new rfl _ _
    replace DX := hide (DX.out.ext xa)
    replace X1 := hide (X1.out.trans xa)
    clear xa
    go_wp2_with fail
    rw [← hW2.out, ← hg5.out]
    clear hW2 hg5
    refine (Drw.iBase DX.out hN.out).mono ?_
    rintro e w3 ⟨A7, n7, c7, rfl, s7, l7, k7, q7, x3⟩
    replace P5 := hide (P5.out.ext x3)
    replace DX := hide (DX.out.ext x3)
    replace X1 := hide (X1.out.trans x3)
    have S7 := hide s7
    clear x3 s7
    have c5 := P5.out.cell
    go_wp2_with fail
    clear c5
    refine (Drw.sBase DX.out hN.out).mono ?_
    rintro e w4 ⟨A9, n9, c9, rfl, s9, l9, k9, q9, x4⟩
    replace P5 := hide (P5.out.ext x4)
    replace DX := hide (DX.out.ext x4)
    replace X1 := hide (X1.out.trans x4)
    replace S7 := hide ((SlI.ext S7.out x4 (Nat.le_refl _)).more x4.size)
    have S9 := hide s9
    clear x4 s9
    have c5 := P5.out.cell
    go_wp2_with fail
    clear c5
    refine (Drw.iKnows DX.out hN.out).mono ?_
    rintro e w5 ⟨rfl, x5⟩
    replace P5 := hide (P5.out.ext x5)
    replace DX := hide (DX.out.ext x5)
    replace X1 := hide (X1.out.trans x5)
    replace S7 := hide ((SlI.ext S7.out x5 (Nat.le_refl _)).more x5.size)
    replace S9 := hide ((SlI.ext S9.out x5 (Nat.le_refl _)).more x5.size)
    clear x5
    have c5 := P5.out.cell
    go_wp2_with fail
    clear c5
    refine (Drw.sKnows DX.out hN.out).mono ?_
    rintro e w6 ⟨rfl, x6⟩
    replace P5 := hide (P5.out.ext x6)
    replace DX := hide (DX.out.ext x6)
    replace X1 := hide (X1.out.trans x6)
    replace S7 := hide ((SlI.ext S7.out x6 (Nat.le_refl _)).more x6.size)
    replace S9 := hide ((SlI.ext S9.out x6 (Nat.le_refl _)).more x6.size)
    clear x6
    have KG := hide (knows_good d xs)
    have e79 : n7 = n9 := by have h1 := S7.out.len; have h2 := S9.out.len; omega
    subst e79
    obtain ⟨G, hG⟩ : ∃ G, Hid (goodB d xs = G) := ⟨_, rfl⟩
    rw [hG.out] at KG ⊢
    generalize (knowsLaw d xs).1 = K1 at *
    generalize (knowsLaw d xs).2 = K2 at *
    go_upto_region 8 with fail
    go_cut [103] (fun s103 wx => s103 = .bool false ∧ Ext w6 wx)
    case first =>
      have SI := hide (l.sameInts_same A7 A9 n7 c7 c9 w6.heap.size w6.heap.size _ w6 S7.out S9.out (by omega))
      skip
      have KG2 := KG.out
      cases K2 <;> cases K1 <;> cases G <;> simp at KG2 <;> clear KG2
      all_goals
        go_wp2_with (go_at_call 10; refine SI.out.mono ?_; rintro e wy ⟨rfl, xy⟩)
        go_meet
        exact ⟨rfl, xy⟩
    case rest =>
      obtain ⟨rfl, xc⟩ := hcut
      replace P5 := hide (P5.out.ext xc)
      replace DX := hide (DX.out.ext xc)
      replace X1 := hide (X1.out.trans xc)
      replace S7 := hide ((SlI.ext S7.out xc (Nat.le_refl _)).more xc.size)
      replace S9 := hide ((SlI.ext S9.out xc (Nat.le_refl _)).more xc.size)
      clear xc KG
      go_upto_if 104 with fail
      go_cut [] (fun wx => Ext wc wx)
      case first =>
        cases G
        · go_wp2
          go_meet
          exact Ext.refl _
        · as_aux_lemma =>
          have HG := hide hG.out
          have hd := hide (goodB_code HG.out)
          have ho := hide (goodB_ls HG.out)
          have eb : (basesLaw d xs).1 = basesF d xs := by simp [basesLaw, HG.out]
          have S9 := hide (show SlI wc wc.heap.size A9 n7 (basesF d xs) from eb ▸ S9.out)
          have en : n7 = N := by have h1 := S9.out.len; have h2 : (basesF d xs).length = xs.length := basesN_len d xs _; have h3 := hN.out; omega
          subst en
          have h14 : n7 ≤ 14 := l9
          have B9 := hide (bases_small hd.out ho.out)
          have F9 := hide (fam_small hd.out ho.out)
          clear S7 eb
          have X0 := hide (Ext.refl wc)
          have c5 := P5.out.cell
          go_wp2_with fail
          clear c5
          refine (Drw.iPB DX.out hN.out HG.out).mono ?_
          rintro e v1 ⟨rfl, x1⟩
          replace X0 := hide (X0.out.trans x1)
          replace P5 := hide (P5.out.ext x1)
          replace DX := hide (DX.out.ext x1)
          replace S9 := hide ((SlI.ext S9.out x1 (Nat.le_refl _)).more x1.size)
          clear x1
          have c5 := P5.out.cell
          go_wp2_with fail
          clear c5
          refine (Drw.iFam DX.out hN.out HG.out).mono ?_
          rintro e v2 ⟨A17, c17, rfl, s17, j17, q17, x1⟩
          replace X0 := hide (X0.out.trans x1)
          replace P5 := hide (P5.out.ext x1)
          replace DX := hide (DX.out.ext x1)
          replace S9 := hide ((SlI.ext S9.out x1 (Nat.le_refl _)).more x1.size)
          have S17 := hide s17
          clear x1 s17
          have c5 := P5.out.cell
          go_wp2_with fail
          clear c5
          refine (Drw.sFam DX.out hN.out HG.out).mono ?_
          rintro e v3 ⟨A19, c19, rfl, s19, j19, q19, x1⟩
          replace X0 := hide (X0.out.trans x1)
          replace P5 := hide (P5.out.ext x1)
          replace DX := hide (DX.out.ext x1)
          replace S9 := hide ((SlI.ext S9.out x1 (Nat.le_refl _)).more x1.size)
          replace S17 := hide ((SlI.ext S17.out x1 (Nat.le_refl _)).more x1.size)
          have S19 := hide s19
          clear x1 s19
          have PS := hide (l.pSum_m A9 n7 c9 v3.heap.size _ v3 S9.out (by omega) B9.out)
          have FSU := hide (fam_sum_all hd.out xs)
          obtain ⟨SB, hSB⟩ : ∃ SB, Hid ((basesF d xs).sum = SB) := ⟨_, rfl⟩
          rw [hSB.out] at PS FSU ⊢
          have sne : (SB != SB) = false := by simp
          go_wp2_with (go_at_call 14; refine PS.out.mono ?_; rintro e wy ⟨rfl, rfl⟩)
          refine (l.sameInts_same A17 A19 5 c17 c19 _ _ _ _ S17.out S19.out (by omega)).mono ?_
          rintro e v4 ⟨rfl, x1⟩
          replace X0 := hide (X0.out.trans x1)
          replace P5 := hide (P5.out.ext x1)
          replace DX := hide (DX.out.ext x1)
          replace S9 := hide ((SlI.ext S9.out x1 (Nat.le_refl _)).more x1.size)
          replace S19 := hide ((SlI.ext S19.out x1 (Nat.le_refl _)).more x1.size)
          clear x1 PS
          have PS := hide (l.pSum_m A19 5 c19 v4.heap.size _ v4 S19.out (by omega) F9.out)
          rw [FSU.out] at PS
          have c5 := P5.out.cell
          go_wp2_with (go_at_call 14; refine PS.out.mono ?_; rintro e wy ⟨rfl, rfl⟩)
          clear c5
          refine (Drw.iLoss DX.out hN.out HG.out).mono ?_
          rintro e v5 ⟨A21, c21, rfl, s21, j21, q21, x1⟩
          replace X0 := hide (X0.out.trans x1)
          replace P5 := hide (P5.out.ext x1)
          replace DX := hide (DX.out.ext x1)
          replace S9 := hide ((SlI.ext S9.out x1 (Nat.le_refl _)).more x1.size)
          have S21 := hide s21
          clear x1 s21 PS FSU S17 S19
          have c5 := P5.out.cell
          go_wp2_with fail
          clear c5
          refine (Drw.sLoss DX.out hN.out HG.out).mono ?_
          rintro e v6 ⟨A23, c23, rfl, s23, j23, q23, x1⟩
          replace X0 := hide (X0.out.trans x1)
          replace P5 := hide (P5.out.ext x1)
          replace DX := hide (DX.out.ext x1)
          replace S9 := hide ((SlI.ext S9.out x1 (Nat.le_refl _)).more x1.size)
          replace S21 := hide ((SlI.ext S21.out x1 (Nat.le_refl _)).more x1.size)
          have S23 := hide s23
          clear x1 s23
          go_wp2_with fail
          refine (l.sameInts_same A21 A23 n7 c21 c23 _ _ _ _ S21.out S23.out (by omega)).mono ?_
          rintro e v7 ⟨rfl, x1⟩
          replace X0 := hide (X0.out.trans x1)
          replace P5 := hide (P5.out.ext x1)
          replace DX := hide (DX.out.ext x1)
          replace S9 := hide ((SlI.ext S9.out x1 (Nat.le_refl _)).more x1.size)
          replace S23 := hide ((SlI.ext S23.out x1 (Nat.le_refl _)).more x1.size)
          clear x1 S21
          go_wp2
          go_loopw [169] (fun s wr => ∃ k : Nat, s = .int .i64 k ∧ k ≤ n7 ∧ Ext v7 wr) (fun s _ => n7 - (intOf s).toNat)
          case atStart => exact ⟨0, by go_num, Nat.zero_le _, Ext.refl _⟩
          case round =>
            obtain ⟨k, rfl, hk, x1⟩ := hrel
            have YX := hide x1
            have DY := hide (DX.out.ext x1)
            have PY := hide (P5.out.ext x1)
            have T9 := hide ((SlI.ext S9.out x1 (Nat.le_refl _)).more x1.size)
            have T23 := hide ((SlI.ext S23.out x1 (Nat.le_refl _)).more x1.size)
            clear x1
            by_cases hlt : k < n7
            · as_aux_lemma =>
              have hkx : k < xs.length := by have := hN.out; omega
              obtain ⟨x, hxk⟩ : ∃ x, Hid (xs[k]? = some x) := get_ex xs k hkx
              obtain ⟨b9, o9, rfl, hb9, hc9⟩ := T9.out.cells (by omega)
              have w9 := hc9 k hlt
              rw [basesF_at hkx] at w9
              have BL := hide (base_le_full hd.out ho.out hxk.out)
              have ltz : (k : Int) < (n7 : Int) := by omega
              clear hc9
              obtain ⟨bq, hbq⟩ : ∃ bq, Hid (baseF d xs k = bq) := ⟨_, rfl⟩
              rw [hbq.out] at w9 BL
              have IB := hide (Drw.iIB DY.out hN.out HG.out hlt)
              rw [hbq.out] at IB
              have c5 := PY.out.cell
              go_wp2_with fail
              clear c5 w9
              refine IB.out.mono ?_
              rintro e r1 ⟨rfl, x1⟩
              replace YX := hide (YX.out.trans x1)
              replace PY := hide (PY.out.ext x1)
              replace DY := hide (DY.out.ext x1)
              replace T23 := hide ((SlI.ext T23.out x1 (Nat.le_refl _)).more x1.size)
              clear x1 IB T9
              have c5 := PY.out.cell
              go_wp2_with fail
              clear c5
              refine (Drw.iRep DY.out hN.out HG.out hlt).mono ?_
              rintro e r2 ⟨rfl, x1⟩
              replace YX := hide (YX.out.trans x1)
              replace PY := hide (PY.out.ext x1)
              replace DY := hide (DY.out.ext x1)
              replace T23 := hide ((SlI.ext T23.out x1 (Nat.le_refl _)).more x1.size)
              clear x1
              have c5 := PY.out.cell
              go_wp2_with fail
              clear c5
              refine (Drw.sRep DY.out hN.out HG.out hlt).mono ?_
              rintro e r3 ⟨rfl, x1⟩
              replace YX := hide (YX.out.trans x1)
              replace PY := hide (PY.out.ext x1)
              replace DY := hide (DY.out.ext x1)
              replace T23 := hide ((SlI.ext T23.out x1 (Nat.le_refl _)).more x1.size)
              clear x1
              generalize ((repF xs k : Nat) : Int) = rq at *
              obtain ⟨bl, ol, B1, e1, B2, e2, hA, hbl, i0, i1, i2, L1, L2⟩ := DY.out.lr.item k x hxk.out
              subst hA
              have hgi : (codeB d && itemB x && knownI d.1 x) = true := by
                have h1 := HG.out
                simp only [goodB, Bool.and_eq_true, itemsB, knownB, List.all_eq_true] at h1 ⊢
                exact ⟨⟨h1.1.1, h1.1.2.1 x (List.mem_of_getElem? hxk.out)⟩, h1.2 x (List.mem_of_getElem? hxk.out)⟩
              have FB := hide (fun (wq : World) (xq : Ext r3 wq) => i.FullBase_v wq _ _ d x (kC.rd_ext DY.out.rd xq) DY.out.ok (kIm.rd_ext (show kIm.rd r3 (.agg #[.slice B1 x.1.length e1, .slice B2 x.2.1.length e2, .bool x.2.2]) x from ⟨_, rfl, kdItem.mk_ L1 L2⟩) xq) (Nat.le_trans (wtL_at kdItem xs k x hxk.out) DY.out.wt) hgi)
              clear L1 L2 hgi
              obtain ⟨fq, hfq⟩ : ∃ fq, Hid (fullF d x = fq) := ⟨_, rfl⟩
              rw [hfq.out] at FB BL
              have bl1 := BL.out.1
              have bl2 := BL.out.2
              have ng1 : ¬ fq < bq := by omega
              have ng2 : ¬ bq < 0 := by omega
              have c5 := PY.out.cell
              have cc1 := hide DY.out.lr.1
              have cc2 := hide DY.out.lr.2.1
              generalize x.1.length = u1 at *
              generalize x.2.1.length = u2 at *
              generalize x.2.2 = u3 at *
              go_wp2_with fail
              go_region_law (go_simp; go_at_call 20; refine (FB.out _ (Ext.drew _)).mono ?_; rintro e r4 ⟨rfl, x1⟩; have YX := hide (YX.out.trans ((Ext.drew _).trans x1)); have PY := hide (PY.out.ext ((Ext.drew _).trans x1)); have DY := hide (DY.out.ext ((Ext.drew _).trans x1)); have T23 := hide ((SlI.ext T23.out ((Ext.drew _).trans x1) (Nat.le_refl _)).more ((Ext.drew _).trans x1).size); clear x1)
              all_goals
                clear c5 i0 i1 i2 FB hbl
                have kc : (k : Int) ≤ (c : Int) := by have := cc1.out; have := hN.out; omega
                have cm : c ≤ 9223372036854775807 := cc2.out
                go_wp2
                go_loopw [237, 35] (fun s s35 wr => ∃ j : Nat, s = .int .i64 j ∧ s35 = .bool (firstB xs k j) ∧ j ≤ k ∧ Ext r4 wr) (fun s _ _ => k - (intOf s).toNat)
                case atStart => exact ⟨0, by go_num, rfl, Nat.zero_le _, Ext.refl _⟩
                case round =>
                  obtain ⟨j, rfl, rfl, hj, x2⟩ := hrel
                  have HX := hide x2
                  clear x2
                  by_cases hlj : j < k
                  · obtain ⟨y, hyj⟩ : ∃ y, Hid (xs[j]? = some y) := get_ex xs j (by omega)
                    have DZ := hide (DY.out.ext HX.out)
                    obtain ⟨bz, oz, A3, c3, A4, c4, he, hbz, z0, z1, z2, r1, r2⟩ := DZ.out.lr.item j y hyj.out
                    simp only [Option.some.injEq, Addr.mk.injEq, and_true] at he
                    obtain ⟨rfl, rfl⟩ := he
                    obtain ⟨bz, oz, A5, c5, A6, c6, he, hbz2, z3, z4, z5, r3, r4⟩ := DZ.out.lr.item k x hxk.out
                    simp only [Option.some.injEq, Addr.mk.injEq, and_true] at he
                    obtain ⟨rfl, rfl⟩ := he
                    have iy := ho.out.it j y hyj.out
                    have ix := ho.out.it k x hxk.out
                    have y1 := iy.n1; have y3 := iy.n3; have x1 := ix.n1; have x3 := ix.n3
                    obtain ⟨ny, hny⟩ : ∃ ny, Hid (y.1[0]? = some ny) := get_ex y.1 0 (by omega)
                    obtain ⟨nx, hnx⟩ : ∃ nx, Hid (x.1[0]? = some nx) := get_ex x.1 0 (by omega)
                    obtain ⟨g1, p1, rfl, hg1, s1, -⟩ := r1.str 0 ny hny.out
                    obtain ⟨g2, p2, rfl, hg2, s2, -⟩ := r3.str 0 nx hnx.out
                    have l1 := r1.1; have l3 := r3.1; have l4 := r1.2.1; have l6 := r3.2.1
                    simp only [Nat.add_zero] at s1 s2
                    have FSU := hide (firstB_succ (k := k) hyj.out)
                    have PP : Hid ((y.1.getD 0 [] == (xs.getD k noItem).1.getD 0 []) = (ny == nx)) := by show _ = _; rw [getD_some hxk.out, getD_some hny.out, getD_some hnx.out]
                    rw [PP.out] at FSU
                    generalize y.1.length = v1 at *
                    generalize y.2.1.length = v2 at *
                    generalize y.2.2 = v3 at *
                    generalize x.1.length = v4 at *
                    generalize x.2.1.length = v5 at *
                    generalize x.2.2 = v6 at *
                    obtain ⟨W1, hW1⟩ : ∃ W1, Hid (W1 = wr.alloc (.cells #[.slice (some ⟨g1, p1, none⟩) v1 c3, .slice A4 v2 c4, .bool v3] 43)) := ⟨_, rfl⟩
                    have Z1 : Hid (Ext wr W1) := by rw [hW1.out]; exact Ext.alloc _ _
                    have B1 : Hid (Blk W1 wr.heap.size #[.slice (some ⟨g1, p1, none⟩) v1 c3, .slice A4 v2 c4, .bool v3] 43) := by rw [hW1.out]; exact Blk.new rfl _ _
                    have s1_ : W1.cell? ⟨g1, p1, none⟩ = some (.string (bs ny)) := (Z1.out.cell (by show g1 < _; omega)).trans s1
                    have s2_ : W1.cell? ⟨g2, p2, none⟩ = some (.string (bs nx)) := (Z1.out.cell (by show g2 < _; omega)).trans s2
                    have z3_ : W1.cell? ⟨bl, ol + k * 3, none⟩ = some (.slice (some ⟨g2, p2, none⟩) v4 c5) := (Z1.out.cell (by show bl < _; omega)).trans z3
                    have q1 : 0 < v1 := y1
                    have q4 : 0 < v4 := x1
                    have E1 : Hid (((bs ny).toList == (bs nx).toList) = (ny == nx)) := by show _ = _; rw [bs_toList, bs_toList]
                    clear r1 r2 r3 r4 s1 s2 z3 z4 z5 iy ix PP hny hnx
                    generalize bs ny = bY at *
                    generalize bs nx = bx at *
                    obtain ⟨F, hF⟩ : ∃ F, Hid (firstB xs k j = F) := ⟨_, rfl⟩
                    rw [hF.out] at FSU ⊢
                    have jz : (j : Int) < (k : Int) := by omega
                    go_wp2
                    rw [← hW1.out]
                    clear hW1 z0 z1 z2
                    have c1_ := B1.out.cell
                    have e1 := E1.out
                    cases hE : (ny == nx)
                    all_goals
                      rw [hE] at e1 FSU
                      clear hE
                      cases F
                      all_goals
                        go_quiet (fail)
                        clear e1 c1_ s1_ s2_ z3_
                        go_wp2
                        go_roundw
                        case rel => exact ⟨j + 1, by go_num, by rw [FSU.out]; rfl, by omega, (HX.out.trans Z1.out).trans (Ext.drewN _ _)⟩
                        case measure => simp [intOf]; omega
                  · have ej : j = k := by omega
                    subst ej
                    have jz : ¬ ((j : Int) < (j : Int)) := by omega
                    have TX := hide ((SlI.ext T23.out HX.out (Nat.le_refl _)).more HX.out.size)
                    obtain ⟨b23, o23, e23, hb23, hc23⟩ := TX.out.cells (by omega)
                    subst e23
                    have w23 := hc23 j hlt
                    have LN := hide (loss_nn (d := d) hd.out hkx)
                    rw [hN.out] at LN
                    obtain ⟨z, hz⟩ : ∃ z, Hid ((lossN d xs n7).getD j 0 = z) := ⟨_, rfl⟩
                    rw [hz.out] at LN w23
                    have jn : (j : Int) < (n7 : Int) := by omega
                    clear hc23 TX S23 T23
                    cases F : firstB xs j j
                    · clear F LN w23
                      go_wp2
                      go_roundw
                      case rel => exact ⟨j + 1, by go_num, by omega, YX.out.trans HX.out⟩
                      case measure => simp [intOf]; omega
                    · have nz : ¬ z < 0 := by have := LN.out F; omega
                      clear F LN
                      go_wp2
                      go_roundw
                      case rel => exact ⟨j + 1, by go_num, by omega, YX.out.trans HX.out⟩
                      case measure => simp [intOf]; omega
            · go_wp2
              go_meet
              exact X0.out.trans YX.out
      case rest =>
        have xr := hcut
        replace X1 := hide (X1.out.trans xr)
        clear P5 DX S7 S9 xr hG
        have DR := hide (s.DrawElementWorth_m _ a1 n1 c1 (H1.out.ext X1.out))
        go_wp2_with fail
        refine DR.out.mono ?_
        rintro e v1 ⟨A1, m1, d1, A2, m2, d2, r, bo, k, f, y, z, rfl, hy, hz, ⟨d, hd, hrd⟩, x1⟩
        have RD := hide (hrd v1 (Since.refl _ _))
        have Y1 := hide (X1.out.trans x1)
        clear DR X1 x1 hrd
        obtain ⟨W2, hW2⟩ : ∃ W2, Hid (W2 = v1.alloc (.cells #[.slice A1 m1 d1, .slice A2 m2 d2, .int .i64 r, .int .i64 bo, .int .i64 k, .int .i64 f] 27)) := ⟨_, rfl⟩
        have xa : Ext v1 W2 := by rw [hW2.out]; exact Ext.alloc _ _
        obtain ⟨g8, hg8⟩ : ∃ g8, Hid (g8 = v1.heap.size) := ⟨_, rfl⟩
        have P8 : Hid (Blk W2 g8 #[.slice A1 m1 d1, .slice A2 m2 d2, .int .i64 r, .int .i64 bo, .int .i64 k, .int .i64 f] 27) := by rw [hW2.out, hg8.out]; exact Blk.new rfl _ _
        replace RD := hide (kC.rd_ext RD.out xa)
        replace Y1 := hide (Y1.out.trans xa)
        clear xa
        go_wp2_with fail
        rw [← hW2.out, ← hg8.out]
        clear hW2 hg8
        refine (i.ElementWorth_c _ _ d y z RD.out hd).mono ?_
        rintro e v3 ⟨rfl, x3⟩
        replace P8 := hide (P8.out.ext x3)
        replace RD := hide (kC.rd_ext RD.out x3)
        replace Y1 := hide (Y1.out.trans x3)
        clear x3
        have c8 := P8.out.cell
        go_wp2_with fail
        clear c8
        refine (s.ElementWorth_c _ _ d y z RD.out hd).mono ?_
        rintro e v4 ⟨rfl, x4⟩
        replace Y1 := hide (Y1.out.trans x4)
        clear x4 RD P8
        generalize (elW d y z).1 = E1 at *
        generalize (elW d y z).2 = E2 at *
        have e1 : (E1 == E1) = true := by simp
        cases E2
        all_goals
          go_wp2
          go_ret
          exact ⟨rfl, Y1.out⟩
  · clear hb
    go_wp2
    go_ret
    exact ⟨rfl, Ext.refl _⟩
end Go.Proofs.Ytcngiipdffjkfaa
