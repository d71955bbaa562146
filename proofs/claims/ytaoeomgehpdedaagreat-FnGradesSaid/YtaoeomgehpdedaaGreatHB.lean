/- judgedList: a code, a list of items and marks that mostly belong together. -/
import Derived.Test.YtaoeomgehpdedaaGreatHA
import Derived.Deep.DeepCutAuto
namespace Go.Proofs.YtaoeomgehpdedaaGreat
open Go.RowKit Go.Sort
set_option linter.unusedVariables false

set_option maxRecDepth 100000 in
set_option maxHeartbeats 20000000 in
theorem cu.judgedList_m (w0 w : World) (g M : Nat) (T : Typ) (h : DS w0 g 64 M T w) (hM : M ≤ 4611686018360000000) :
    Calls Tryz.prog 47 #[.pointer (some ⟨g, 0, none⟩)] w fun e w' => JLPost w0 g (M + 12000) e w' := by
  have hg := h.cg
  obtain ⟨W1, hW1⟩ : ∃ W1, Hid (W1 = (w.alloc (.cells zC 26)).alloc (.cells #[.slice none 0 0, .slice none 0 0] 30)) := ⟨_, rfl⟩
  have D0 : Hid (DF w0 w g 64 M T T W1) := by rw [hW1.out]; exact ((DF.start h).ext (Ext.alloc w _)).ext (Ext.alloc _ _)
  have B0 : Hid (Bx g T W1 w.heap.size zC 26) := by rw [hW1.out]; exact (Bx.new h zC _).ext (Ext.alloc _ _)
  have BM : Hid (Bx g T W1 (w.heap.size + 1) #[.slice none 0 0, .slice none 0 0] 30) := by rw [hW1.out]; exact Bx.newAt (h.ext (Ext.alloc w (.cells zC 26))) (by simp) _ _
  clear h
  go_enter Tryz.func47, Tryz.ntmps47
  go_wp2_with fail
  rw [← hW1.out]
  clear hW1
  refine (cu.programme_m w0 W1 g M T D0.out.ds (by omega)).mono ?_
  rintro e w1 ⟨T1, A1, n1, c1, A2, c2, rp, q2, q3, q4, A, n, c, rfl, -, -, m3, f1, t1, t2, t3⟩
  obtain ⟨b, hb⟩ : ∃ b, Hid (w1.heap.size = b) := ⟨_, rfl⟩
  have U : Hid (JU w0 w g (M + 1200) T T1 (w1.alloc (.cells #[.slice A1 n1 c1, .slice A2 5 c2, .int .i64 rp, .int .i64 q2, .int .i64 q3, .int .i64 q4] 26)) b A1 n1 c1 A2 5 c2 rp q2 q3 q4 A n c 1) := by
    have hl := (BM.out.stp f1.sp).lt
    have hq := hb.out
    exact JU.mk (CoU.mk ((D0.out.call f1).ext (Ext.alloc w1 _)) ((B0.out.stp f1.sp).ext (Ext.alloc _ _)) (Bx.newAt (D0.out.call f1).ds hb.out _ _) t1 t2 (by omega)) ((BM.out.stp f1.sp).ext (Ext.alloc _ _)) t3 (by omega)
  clear f1 t1 t2 t3 D0 B0 BM
  go_upto_region 2 with fail
  rw [hb.out]
  clear hb
  generalize w1.alloc (.cells #[.slice A1 n1 c1, .slice A2 5 c2, .int .i64 rp, .int .i64 q2, .int .i64 q3, .int .i64 q4] 26) = w2 at *
  go_wp2_with fail
  refine (cu.one_m _ g _ _ U.out.cu.df.ds.cu (by omega) (by unfold InR; omega)).mono ?_
  rintro e w3 ⟨B, rfl, ca, ka⟩
  have V := hide (U.out.step (Ext.refl _) ka ca)
  clear ca ka U
  have n9 : n ≤ 15 := by omega
  go_upto_if 17 with fail
  go_cut [6] (fun s6 wx => ∃ (T' : Typ) (A1 : Option Addr) (n1 c1 : Nat) (A2 : Option Addr) (n2 c2 : Nat) (r bo k f : Int) (A : Option Addr) (n c p : Nat), s6 = .slice A n c ∧ n ≤ 15 ∧ JU w0 w g (M + 4000) T T' wx b A1 n1 c1 A2 n2 c2 r bo k f A n c p)
  case first =>
    skip
    cases B
    · go_wp2
      go_meet
      exact ⟨T1, A1, n1, c1, A2, 5, c2, rp, q2, q3, q4, A, n, c, 1, rfl, n9, V.out.more (by omega)⟩
    · go_wp2_with fail
      refine (cu.anyProgramme_m w0 w3 g _ T1 V.out.cu.df.ds (by omega)).mono ?_
      rintro e w4 ⟨T4, B1, k1, e1, B2, k2, e2, r, bo, k, f, A', n', c', p, rfl, -, -, h15, f4, s1, s2, s3⟩
      have V4 := hide (V.out.stp f4.sp f4.ds)
      have S1 := hide s1
      have S2 := hide s2
      have S3 := hide s3
      have q5 := V4.out.cu.bb.cell
      have f5 := V4.out.cu.bb.free
      have bl := V4.out.cu.bb.lt
      clear f4 s1 s2 s3 V
      go_wp2
      go_meet
      exact ⟨T4, B1, k1, e1, B2, k2, e2, r, bo, k, f, A', n', c', p, rfl, h15, (V4.out.setC S1.out S2.out S3.out r bo k f).more (by omega)⟩
  case rest =>
    clear V n9
    obtain ⟨T3, A1, n1, c1, A2, n2, c2, r, bo, k, f, A, n, c, p, rfl, n15, st⟩ := hcut
    have V := hide st
    clear st
    have nz : (n : Int) ≤ 15 := by omega
    go_wp2
    go_loopw [25] (fun s wr => ∃ i : Nat, s = .int .i64 i ∧ i ≤ n ∧ JU w0 w g (M + 4000 + 300 * i) T T3 wr b A1 n1 c1 A2 n2 c2 r bo k f A n c p) (fun s _ => n - (intOf s).toNat)
    case atStart => exact ⟨0, by go_num, Nat.zero_le _, V.out⟩
    case round =>
      obtain ⟨i, rfl, hi, st⟩ := hrel
      have R := hide st
      clear st
      by_cases hlt : i < n
      · skip
        obtain ⟨xx, B1, k1, d1, B2, k2, d2, late, ex, -, -, t1, t2, hTx, hxl, e0, e1, e2⟩ := R.out.cu.df.ds.it3 R.out.l hlt
        subst ex
        have hxg := (R.out.cu.df.ds.lo hTx).2.2
        have T2 := hide t2
        have HT := hide hTx
        have k64 := (R.out.cu.df.ds.ts.len t2).1
        have kz : (k2 : Int) ≤ 64 := by omega
        have iz : (i : Int) < (n : Int) := by omega
        have E1 := hide e1
        have HC := hide (R.out.cu.df.ds.ts.len R.out.l)
        have hc1 := HC.out.2.1
        have hc2 := HC.out.2.2
        unfold maxLen at hc2
        clear t1 t2 hTx e0 e2 HC
        go_wp2
        clear e1
        go_loopw [34] (fun s wr2 => ∃ j : Nat, s = .int .i64 j ∧ j ≤ k2 ∧ JU w0 w g (M + 4000 + 300 * i + 4 * j) T T3 wr2 b A1 n1 c1 A2 n2 c2 r bo k f (some ⟨xx, 0, none⟩) n c p ∧ wr2.cell? ⟨xx, i * 3 + 1, none⟩ = some (.slice B2 k2 d2)) (fun s _ => k2 - (intOf s).toNat)
        case atStart => exact ⟨0, by go_num, Nat.zero_le _, R.out, E1.out⟩
        case round =>
          obtain ⟨j, rfl, hj, st, ec⟩ := hrel
          have R2 := hide st
          have EC := hide ec
          have xl2 := (R2.out.cu.df.ds.lo HT.out).2.1
          clear st ec R
          by_cases hjl : j < k2
          · go_wp2_with fail
            refine (cu.one_m _ g _ _ R2.out.cu.df.ds.cu (by omega) (by unfold InR; omega)).mono ?_
            rintro e w5 ⟨B, rfl, ca, ka⟩
            have R3 := hide (R2.out.step (Ext.refl _) ka ca)
            have EC3 : Hid (w5.cell? ⟨xx, i * 3 + 1, none⟩ = some (.slice B2 k2 d2)) := (World.cell?_of_block (ka.block xx xl2 (by simpa using hxg))).trans EC.out
            clear ca ka
            cases B
            · go_wp2
              go_roundw
              case rel => exact ⟨j + 1, by go_num, by omega, R3.out.more (by omega), EC3.out⟩
              case measure => simp [intOf]; omega
            · obtain ⟨y, m, ey, hTy, hm⟩ := T2.out.pos (by omega)
              subst ey
              have TY := hide hTy
              have hyx : y ≠ xx := fun e => by
                obtain ⟨q, mm, eq, hq, -⟩ := R3.out.l.pos (by omega)
                obtain rfl : xx = q := congrArg Addr.block (Option.some.inj eq)
                rw [e, hq] at hTy
                simp at hTy
              have hT2 : T3 y ≠ none := by rw [hTy]; simp
              have HT2 := hide hT2
              have CY := hide (fun (wq : World) (hq : JU w0 w g (M + 4000 + 300 * i + 4 * j + 2 + 2) T T3 wq b A1 n1 c1 A2 n2 c2 r bo k f (some ⟨xx, 0, none⟩) n c p) => hq.cellI T2.out hjl)
              have xl3 := (R3.out.cu.df.ds.lo HT.out).2.1
              have yl3 := (R3.out.cu.df.ds.lo HT2.out).2.1
              have e1 := EC3.out
              have jz : (j : Int) < (k2 : Int) := by omega
              have hd := R3.out.cu.df.ds.ts.len T2.out
              have hd1 := hd.2.1
              have hd2 := hd.2.2
              unfold maxLen at hd2
              have RC := hide (And.intro R3.out EC3.out)
              clear hTy hT2 hd
              go_wp2_with fail
              go_region_law (go_simp; go_at_call 48; refine (cu.pick_m _ g _ _ (RC.out.1.cu.df.ds.cu.ext (by first | with_reducible exact Ext.refl _ | with_reducible exact Ext.drew _)) (by omega) (by unfold InR; omega)).mono ?_; rintro e w7 ⟨z, rfl, -, -, -, c7, k7⟩; have kk := (TchF.of_ext (show Ext w5 _ from (by first | with_reducible exact Ext.refl _ | with_reducible exact Ext.drew _)) (fp := [g])).trans k7; have RC := hide (And.intro (RC.out.1.step (by first | with_reducible exact Ext.refl _ | with_reducible exact Ext.drew _) k7 c7) (show w7.cell? ⟨xx, i * 3 + 1, none⟩ = some (.slice (some ⟨y, 0, none⟩) k2 d2) from (World.cell?_of_block (kk.block xx xl3 (by simpa using hxg))).trans RC.out.2)); have e1 := RC.out.2; obtain ⟨z9, cy, fy⟩ := CY.out _ RC.out.1; clear c7 k7 kk)
              all_goals
                go_wp2
                go_roundw
                case rel =>
                  refine ⟨j + 1, by go_num, by omega, (RC.out.1.putI TY.out j _).more (by omega), ?_⟩
                  exact (World.cell?_of_block (Below.heap_setCell _ _ _ _ (show xx ≠ y from Ne.symm hyx))).trans RC.out.2
                case measure => simp [intOf]; omega
          · have jn : ¬ ((j : Int) < (k2 : Int)) := by omega
            go_wp2
            go_roundw
            case rel => exact ⟨i + 1, by go_num, by omega, R2.out.more (by omega)⟩
            case measure => simp [intOf]; omega
      · skip
        obtain rfl : i = n := by omega
        have R1 := hide (R.out.more (show M + 4000 + 300 * i ≤ M + 8500 by omega))
        clear R V
        go_upto_region 14 with fail
        go_cut [56] (fun s56 wx => ∃ B, s56 = .bool B ∧ (B = true → 1 < i) ∧ JU w0 w g (M + 8502) T T3 wx b A1 n1 c1 A2 n2 c2 r bo k f A i c p)
        case first =>
          skip
          by_cases h1 : 1 < i
          · have h1z : (1 : Int) < (i : Int) := by omega
            go_wp2_with fail
            refine (cu.one_m _ g _ _ R1.out.cu.df.ds.cu (by omega) (by unfold InR; omega)).mono ?_
            rintro e w5 ⟨B, rfl, ca, ka⟩
            go_wp2
            go_meet
            exact ⟨B, rfl, fun _ => h1, (R1.out.step (Ext.refl _) ka ca).more (by omega)⟩
          · have h1z : ¬ (1 : Int) < (i : Int) := by omega
            go_wp2
            go_meet
            exact ⟨false, rfl, by simp, R1.out.more (by omega)⟩
        case rest =>
          obtain ⟨B, rfl, hB, st⟩ := hcut
          clear R1
          have R := hide st
          clear st
          go_upto_if 56 with fail
          go_cut [6] (fun s6 wx => ∃ (T' : Typ) (A : Option Addr) (n c p : Nat), s6 = .slice A n c ∧ n ≤ 19 ∧ JU w0 w g (M + 8502) T T' wx b A1 n1 c1 A2 n2 c2 r bo k f A n c p)
          case first =>
            skip
            cases B
            · go_wp2
              go_meet
              exact ⟨T3, A, i, c, p, rfl, by omega, R.out⟩
            · have h1 := hB rfl
              clear hB
              go_wp2_with fail
              refine (cu.itOwnT R.out.cu.df.ds R.out.l).mono ?_
              rintro e w5 ⟨T5, A5, c5, rfl, d5, s5, l5⟩
              have R5 := hide (R.out.stp s5 d5)
              have L5 := hide l5
              clear d5 s5 l5 R
              obtain ⟨m, hm, m0, m4, mi⟩ : ∃ m : Nat, (if (i : Int) < 4 then (i : Int) else 4) = (m : Int) ∧ 0 < m ∧ m ≤ 4 ∧ m ≤ i := by
                by_cases h4 : (i : Int) < 4
                · exact ⟨i, by rw [if_pos h4], by omega, by omega, by omega⟩
                · exact ⟨4, by rw [if_neg h4]; rfl, by omega, by omega, by omega⟩
              have LS := cu.least_m (i : Int) 4 w5
              rw [hm] at LS
              have LSh := hide LS
              clear LS hm
              go_wp2_with fail
              refine LSh.out.mono ?_
              rintro e w6 ⟨rfl, hw⟩
              obtain rfl : w5 = w6 := hw.symm
              clear hw
              obtain ⟨gl, news, eA, hl, hsrc, hel⟩ := ST.source R5.out.cu.df.ds.ts L5.out m0 mi
              subst eA
              have HL := hide hl
              have HS := hide hsrc
              have HE := hide hel
              have hd := R5.out.cu.df.ds.ts.len L5.out
              have hd1 := hd.2.1
              have hd2 := hd.2.2
              unfold maxLen at hd2
              have mc : (m : Int) ≤ (c5 : Int) := by omega
              have m0z : (0 : Int) ≤ (m : Int) := by omega
              clear hl hsrc hel hd LSh
              go_wp2_with (at_builtin; refine wpList_append_T (ks := ksIt p) (by rfl) (.tmp 57) (.tmp 63) (by rfl) elemN_item (by rfl) (by rfl) R5.out.cu.df.ds.ts R5.out.cu.df.ds.size R5.out.l (Nat.succ_pos 2) HL.out HS.out HE.out m0 (by omega) (by decide) (by omega) ?_; intro A6 c6 w7 T7 ap; have AP := hide ap; clear ap)
              obtain ⟨d, s, t⟩ := R5.out.cu.df.ds.app AP.out
              have R7 := hide ((R5.out.stp s d).withL t)
              clear d s t AP
              go_wp2
              go_meet
              exact ⟨T7, A6, i + m, c6, p, rfl, by omega, R7.out⟩
          case rest =>
            clear R hB nz hi hlt n15
            obtain ⟨T8, A, n, c, p, rfl, n19, st⟩ := hcut
            have R := hide st
            clear st
            obtain ⟨m, hm, m15, mn⟩ : ∃ m : Nat, (if (n : Int) < 15 then (n : Int) else 15) = (m : Int) ∧ m ≤ 15 ∧ m ≤ n := by
              by_cases h4 : (n : Int) < 15
              · exact ⟨n, by rw [if_pos h4], by omega, by omega⟩
              · exact ⟨15, by rw [if_neg h4]; rfl, by omega, by omega⟩
            have LS := cu.least_m (n : Int) 15 wc
            rw [hm] at LS
            have LSh := hide LS
            clear LS hm
            go_wp2_with fail
            refine LSh.out.mono ?_
            rintro e w6 ⟨rfl, hw⟩
            obtain rfl : wc = w6 := hw.symm
            clear hw LSh
            go_wp2_with fail
            refine (cu.marks_m _ g _ m R.out.cu.df.ds.cu (by omega) (by omega)).mono ?_
            rintro e w10 ⟨v, d, J, rfl, hf, l1, l2, j0, j1, hx1, hx2, ca, ka⟩
            obtain ⟨Ag, ng, cg, Ac, nc, cc, rfl⟩ := kM.shape (kM.fr_rd hf)
            have OK : Hid (kM.ok d) := kM.ok_small (n := 15) (by omega) (by omega) (by omega) (fun x hx => by rw [hx1 x hx]; omega) (fun x hx => by rw [hx2 x hx]; omega)
            have R10 := hide (R.out.step (Ext.refl _) ka ca)
            obtain ⟨x, hx⟩ : ∃ b, Hid (w10.heap.size = b) := ⟨_, rfl⟩
            have lw : w.heap.size + 1 < wc.heap.size := R.out.bm.lt
            have lb : b < wc.heap.size := R.out.cu.bb.lt
            have RA := hide ((kM.rdA hf).ext (Ext.alloc w10 (.cells #[.slice Ag ng cg, .slice Ac nc cc] 30)))
            have BX := hide (Bx.newAt R10.out.cu.df.ds hx.out #[.slice Ag ng cg, .slice Ac nc cc] 30)
            have R11 := hide (R10.out.ext (Ext.alloc w10 (.cells #[.slice Ag ng cg, .slice Ac nc cc] 30)))
            have bx : b < x := by have := ka.size; have := hx.out; omega
            clear hf l1 l2 hx1 hx2 ca ka R R10 j0 j1
            go_upto_region 18 with fail
            rw [hx.out]
            clear hx
            generalize w10.alloc (.cells #[.slice Ag ng cg, .slice Ac nc cc] 30) = w11 at *
            go_wp2_with fail
            refine (cu.one_m _ g _ _ R11.out.cu.df.ds.cu (by omega) (by unfold InR; omega)).mono ?_
            rintro e w12 ⟨B, rfl, ca, ka⟩
            have gW := R11.out.cu.df.ds.hg
            have hW := R11.out.cu.df.hs
            have hww : w0.heap.size ≤ w.heap.size := hW
            have R12 := hide (R11.out.step (Ext.refl _) ka ca)
            have B12 := hide (BX.out.curs ka)
            have A12 := hide (RA.out.tchF ka (fun i hi => by simp at hi; omega))
            clear ca ka R11 BX RA
            go_upto_if 72 with fail
            go_cut [] (fun wx => ∃ (Ag : Option Addr) (ng cg : Nat) (Ac : Option Addr) (nc cc : Nat) (d : MD) (lo : Nat), JU w0 w g (M + 11000) T T8 wx b A1 n1 c1 A2 n2 c2 r bo k f A n c p ∧ Bx g T8 wx x #[.slice Ag ng cg, .slice Ac nc cc] 30 ∧ w.heap.size + 1 < lo ∧ RdA kM lo wx (.agg #[.slice Ag ng cg, .slice Ac nc cc]) d ∧ kM.ok d)
            case first =>
              skip
              cases B
              · go_wp2
                go_meet
                exact ⟨Ag, ng, cg, Ac, nc, cc, d, wc.heap.size, R12.out.more (by omega), B12.out, lw, A12.out, OK.out⟩
              · go_wp2_with fail
                refine (cu.pick_m _ g _ _ R12.out.cu.df.ds.cu (by omega) (by unfold InR; omega)).mono ?_
                rintro e w13 ⟨ri, rfl, ri0, ri1, -, ca, ka⟩
                obtain ⟨q, rfl⟩ : ∃ q : Nat, ri = q := ⟨ri.toNat, by omega⟩
                have q6 : (q : Int) < 6 := ri1 (by omega)
                have R13 := hide (R12.out.step (Ext.refl _) ka ca)
                have B13 := hide (B12.out.curs ka)
                clear ca ka R12 B12 A12 OK ri1 ri0
                go_wp2_with fail
                refine (cu.anyMarks_m _ g _ q R13.out.cu.df.ds.cu (by omega) (by omega)).mono ?_
                rintro e w14 ⟨v2, d2, rfl, ra, ok2, ca, ka⟩
                obtain ⟨Bg, mg, eg, Bc, mc, ec, rfl⟩ := kM.shape ra.rd
                have R14 := hide (R13.out.step (Ext.refl _) ka ca)
                have B14 := hide (B13.out.curs ka)
                have RA := hide ra
                have OK := hide ok2
                have xl : x < w13.heap.size := B13.out.lt
                have lw2 : w.heap.size + 1 < w13.heap.size := R13.out.bm.lt
                have q5 := B14.out.cell
                have f5 := B14.out.free
                have bl := B14.out.lt
                clear ra ok2 ca ka R13 B13
                go_wp2
                go_meet
                have e1 := (R14.out.setB B14.out bx 0 (.slice Bg mg eg)).setB (B14.out.set 0 _) bx 1 (.slice Bc mc ec)
                exact ⟨Bg, mg, eg, Bc, mc, ec, d2, w13.heap.size, e1.more (by omega), (B14.out.set 0 _).set 1 _, lw2, (RA.out.far xl _).far xl _, OK.out⟩
            case rest =>
              clear R12 B12 A12 OK
              obtain ⟨Ag, ng, cg, Ac, nc, cc, d, lo, st, bx2, llo, ra, ok⟩ := hcut
              have R := hide st
              have BX := hide bx2
              have RA := hide ra
              have OK := hide ok
              have q5 := R.out.cu.bb.cell
              have q10 := BX.out.cell
              have q0 := R.out.cu.b0.cell
              have f0 := R.out.cu.b0.free
              have q4 := R.out.bm.cell
              have f4 := R.out.bm.free
              have l0 := R.out.cu.b0.lt
              have l4 := R.out.bm.lt
              have l5 := R.out.cu.bb.lt
              have l10 := BX.out.lt
              have hd := R.out.cu.df.ds.ts.len R.out.l
              have hd1 := hd.2.1
              have hd2 := hd.2.2
              unfold maxLen at hd2
              have mc : (m : Int) ≤ (c : Int) := by omega
              have m0z : (0 : Int) ≤ (m : Int) := by omega
              have hbb := R.out.hb
              have llw : w.heap.size < lo := by omega
              have llw1 : w.heap.size + 1 < lo := llo
              clear st bx2 ra ok hd
              go_wp2_with fail
              go_region_law (fail)
              all_goals
                go_wp2
                refine bodyPost_ret (v := .tuple #[.agg #[.slice A1 n1 c1, .slice A2 n2 c2, .int .i64 r, .int .i64 bo, .int .i64 k, .int .i64 f], .slice A m c, .agg #[.slice Ag ng cg, .slice Ac nc cc]]) (by simp [results, Tryz.results47, go_sem, q0, q4]) rfl ?_
                have ho := R.out.out mn (.slice A1 n1 c1) (.slice A2 n2 c2) (.int .i64 r) (.int .i64 bo) (.int .i64 k) (.int .i64 f) (.slice Ag ng cg) (.slice Ac nc cc)
                have hr := ((((((((RA.out.far (p := ⟨w.heap.size, 0, none⟩) llw (.slice A1 n1 c1)).far (p := ⟨w.heap.size, 1, none⟩) llw (.slice A2 n2 c2)).far (p := ⟨w.heap.size, 2, none⟩) llw (.int .i64 r)).far (p := ⟨w.heap.size, 3, none⟩) llw (.int .i64 bo)).far (p := ⟨w.heap.size, 4, none⟩) llw (.int .i64 k)).far (p := ⟨w.heap.size, 5, none⟩) llw (.int .i64 f)).far (p := ⟨w.heap.size + 1, 0, none⟩) llw1 (.slice Ag ng cg)).far (p := ⟨w.heap.size + 1, 1, none⟩) llw1 (.slice Ac nc cc))
                have xd := Ext.drew (set2 (set6 wc w.heap.size (.slice A1 n1 c1) (.slice A2 n2 c2) (.int .i64 r) (.int .i64 bo) (.int .i64 k) (.int .i64 f)) (w.heap.size + 1) (.slice Ag ng cg) (.slice Ac nc cc))
                exact ⟨A1, n1, c1, A2, n2, c2, r, bo, k, f, A, m, c, Ag, ng, cg, Ac, nc, cc, d, rfl, m15, ho.1.since (Since.of_ext xd), ho.2.1.since (Since.of_ext xd), (hr.ext xd).mono (by omega), OK.out, (ho.2.2.1.ext xd).more (by omega), ho.2.2.2.stepX xd⟩
end Go.Proofs.YtaoeomgehpdedaaGreat
