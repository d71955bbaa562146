/- The text of marks read by the reference. -/
import Derived.Test.YtnokilofcdbjhaaGreatDoorXR
import Derived.Test.YtnokilofcdbjhaaGreatDoorXF
namespace Go.Proofs.YtnokilofcdbjhaaGreatDoor
open Go.RowKit Go.Sort
set_option linter.unusedVariables false

theorem Own.slX {w : World} {lo n c : Nat} {A : Option Addr} {xs : List (List UInt8)} (h : Own 9 w lo A n c (strsX xs)) : Sl w w.heap.size A n (strsX xs) := h.sl

set_option maxRecDepth 100000 in
set_option maxHeartbeats 8000000 in
theorem s.ParseMarks_m (y0 : List UInt8) (w : World) (hl : y0.length ≤ 1048576) : Calls Tryz.prog 16 #[.string (bs y0)] w fun e w' => ParsePost w y0 e w' := by
  obtain ⟨W1, hW1⟩ : ∃ W1, Hid (W1 = w.alloc (.cells #[.slice none 0 0, .slice none 0 0] 25)) := ⟨_, rfl⟩
  have X1 : Hid (Ext w W1) := by rw [hW1.out]; exact Ext.alloc _ _
  obtain ⟨g2, hg2⟩ : ∃ g, Hid (w.heap.size = g) := ⟨_, rfl⟩
  have B2 : Hid (Blk W1 g2 #[.slice none 0 0, .slice none 0 0] 25) := by rw [hW1.out]; exact Blk.new hg2.out _ _
  have gw : w.heap.size ≤ g2 := by have := hg2.out; omega
  go_enter Tryz.func16, Tryz.ntmps16
  go_wp2_with fail
  rw [← hW1.out, hg2.out]
  clear hW1 hg2
  refine (s.l1Split_m y0 10 W1 hl).mono ?_
  obtain ⟨ls, hls⟩ : ∃ ls, Hid (splitX 10 y0 = ls) := ⟨_, rfl⟩
  rw [hls.out]
  rintro e w2 ⟨A, cl, rfl, ol, x2⟩
  have hcap := ol.capn; have hcap2 := ol.capm
  have SL := hide ol.slX
  have B3 := hide (B2.out.ext x2)
  have X2 := hide (X1.out.trans x2)
  clear ol x2 X1 B2
  obtain ⟨n, hn⟩ : ∃ n, Hid (ls.length = n) := ⟨_, rfl⟩
  rw [hn.out] at SL hcap ⊢
  by_cases hb : 18 < n
  · have hb' : (18 : Int) < (n : Int) := by omega
    have c2 := B3.out.cell; have f2 := B3.out.free
    have PF := hide (parse_fail (u := .slice none 0 0) (v := .slice none 0 0) (parseS_long (s := y0) (by rw [hls.out, hn.out]; exact hb)) X2.out gw)
    go_wp2
    refine bodyPost_ret (v := .tuple #[noMarks, .bool false]) (by simp [results, Tryz.results16, go_sem, c2, noMarks]) rfl ?_
    exact PF.out
  · have hb' : ¬ (18 : Int) < (n : Int) := by omega
    obtain ⟨W3, hW3⟩ : ∃ W3, Hid (W3 = w2.alloc (.cells #[.slice none 0 0, .slice none 0 0] 25)) := ⟨_, rfl⟩
    have XA : Ext w2 W3 := by rw [hW3.out]; exact Ext.alloc _ _
    have lB := B3.out.lt
    have M0 : Hid (MkU w2 W3 g2 w2.heap.size none 0 [] [] none 0 [] []) :=
      ⟨XA, B3.out.ext XA, by rw [hW3.out]; exact Blk.new rfl _ _, LO.none_, LO.none_, by simp, by simp, Nat.le_refl _, by omega⟩
    clear XA B3 hb
    go_upto_region 5 with fail
    rw [← hW3.out]
    generalize hh0 : w2.heap.size = g6 at M0 lB ⊢
    clear hW3 hh0
    go_wp2
    go_loopw [21] (fun s21 wr => ∃ (k : Nat) (A1 : Option Addr) (c1 : Nat) (f1 : List Nat) (A2 : Option Addr) (c2 : Nat) (f2 : List Nat), k ≤ n ∧ s21 = .int .i64 k ∧ MkU w2 wr g2 g6 A1 c1 (rowsS [103] (ls.take k)) f1 A2 c2 (rowsS [99] (ls.take k)) f2) (fun s21 _ => n - (intOf s21).toNat)
    case atStart => exact ⟨0, _, _, _, _, _, _, Nat.zero_le _, by go_num, M0.out⟩
    case round =>
      clear M0 lB
      obtain ⟨k, A1, c1, f1, A2, c2, f2, hk, rfl, mu⟩ := hrel
      have MU := hide mu
      clear mu
      by_cases hlt : k < n
      · obtain ⟨x, hxk⟩ : ∃ x, Hid (ls[k]? = some x) := ⟨_, List.getElem?_eq_getElem (by rw [hn.out]; exact hlt)⟩
        have hxs : x.length ≤ y0.length := piece_le 10 y0 x (by rw [hls.out]; exact List.mem_of_getElem? hxk.out)
        obtain ⟨b, off, rfl, hb, q1⟩ := Sl.at_ (SL.out.below MU.out.x) hxk.out
        have iz : (k : Int) < (n : Int) := by omega
        have SP := hide (s.l1Split_m x 32 wr (by omega))
        obtain ⟨ws, hws⟩ : ∃ ws, Hid (splitX 32 x = ws) := ⟨_, rfl⟩
        rw [hws.out] at SP
        cases ws with
        | nil => exact absurd hws.out (splitX_ne _ _)
        | cons hd t =>
        have tl : t.length ≤ 1048576 := by have := words_len hws.out; omega
        have tx : Hid (∀ y ∈ t, y.length ≤ 1048576) := fun y hy => by
          have := piece_le 32 x y (by rw [hws.out]; simp [hy])
          omega
        obtain ⟨tn, htn⟩ : ∃ tn, Hid (t.length = tn) := ⟨_, rfl⟩
        rw [List.length_cons, htn.out] at SP
        rw [htn.out] at tl
        go_wp2_with fail
        refine SP.out.mono ?_
        rintro e w4 ⟨A4, c4, rfl, o4, x4⟩
        obtain ⟨h4, rfl, h4a, h4b, h4c⟩ := o4.pos (by omega)
        have h4m := o4.capm
        obtain ⟨o, hsl, ho⟩ := tail_run2 h4 tn c4 h4c
        have X4 := hide x4
        have q4 : w4.cell? ⟨h4, 0, none⟩ = some (.string (bs hd)) := by rw [o4.cell 0 (by omega)]; rfl
        have ST : Hid (Sl w4 w4.heap.size (some ⟨h4, o, none⟩) tn (strsX t)) := by
          refine ⟨by rw [strsX_length, htn.out], fun h => ⟨h4, o, rfl, h4b, fun j u hu => ?_⟩⟩
          have hj := (List.getElem?_eq_some_iff.1 hu).1
          rw [strsX_length, htn.out] at hj
          rw [ho h, Nat.add_comm, o4.cell (j + 1) (by omega)]
          simpa [strsX] using hu
        clear o4 x4 SP
        have q4b : Hid (w4.cell? ⟨h4, 0, none⟩ = some (.string (bs hd))) := q4
        clear q4 q1
        go_wp2
        clear hsl
        go_loopw [9, 30] (fun s9 s30 wr => ∃ (j : Nat) (A9 : Option Addr) (c9 : Nat), j ≤ tn ∧ s30 = .int .i64 j ∧ s9 = .slice A9 j c9 ∧ OwnI 3 wr w4.heap.size A9 j c9 ((t.take j).map numS) ∧ Ext w4 wr) (fun _ s30 _ => tn - (intOf s30).toNat)
        case atStart => exact ⟨0, none, 0, Nat.zero_le _, by go_num, rfl, OwnI.nil, Ext.refl _⟩
        case round =>
          obtain ⟨j, A9, c9, hj, rfl, rfl, o9, x9⟩ := hrel
          have O9 := hide o9
          have X9 := hide x9
          clear o9 x9
          by_cases hlj : j < tn
          · obtain ⟨y, hyj⟩ : ∃ y, Hid (t[j]? = some y) := ⟨_, List.getElem?_eq_getElem (by rw [htn.out]; exact hlj)⟩
            obtain ⟨b2, off2, e2, hb2, q2⟩ := Sl.at_ (ST.out.below X9.out) hyj.out
            simp only [Option.some.injEq, Addr.mk.injEq, and_true] at e2
            obtain ⟨rfl, rfl⟩ := e2
            have jz : (j : Int) < (tn : Int) := by omega
            have NM := hide (s.mkNumber_m y wr (tx.out y (List.mem_of_getElem? hyj.out)))
            have HS : Hid ((t.take (j + 1)).map numS = (t.take j).map numS ++ [numS y]) := by show _ = _; rw [List.take_add_one, hyj.out]; simp
            obtain ⟨z, hz⟩ : ∃ z, Hid (numS y = z) := ⟨_, rfl⟩
            rw [hz.out] at NM HS
            obtain ⟨zs, hzs⟩ : ∃ zs, Hid ((t.take j).map numS = zs) := ⟨_, rfl⟩
            rw [hzs.out] at O9 HS
            go_wp2_with fail
            refine NM.out.mono ?_
            rintro e w5 ⟨rfl, rfl⟩
            clear q2 NM
            go_wp2_with (at_builtin; refine wpList_append_sl rfl (.tmp 34) (.tmp 37) rfl elem_int rfl rfl (lo := w4.heap.size) (Own.alloc O9.out (.cells #[.int .i64 z] 3)) (Sl.one wr (.int .i64 z) 3) (one_int _) (by omega) (by omega) (by have := X9.out.size; simp; omega) ?_)
            intro A5 c5 w5 hap
            have O5 := hide hap.own
            have X5 := hide (hap.ext (X9.out.trans (Ext.alloc _ _)) (Own.fromLo O9.out))
            clear hap
            go_wp2
            go_roundw
            case rel => exact ⟨j + 1, A5, c5, by omega, by go_num, rfl, by rw [HS.out]; have := O5.out; rwa [show zs.map (Value.int .i64) ++ [Value.int .i64 z] = (zs ++ [z]).map (Value.int .i64) by simp] at this, X5.out⟩
            case measure => simp [intOf]; omega
          · obtain rfl : j = tn := by omega
            rw [List.take_of_length_le (by rw [htn.out]; exact Nat.le_refl _)] at O9
            have q5 := (Below.cell (p := ⟨h4, 0, none⟩) X9.out h4b).trans q4b.out
            have X5 := hide (X4.out.trans X9.out)
            have M5 := hide (MU.out.ext X5.out)
            obtain ⟨zs, hzs⟩ : ∃ zs, Hid (t.map numS = zs) := ⟨_, rfl⟩
            rw [hzs.out] at O9
            clear X9 ST q4b
            obtain ⟨G1, hG1⟩ : ∃ G, Hid (rowsS [103] (ls.take k) = G) := ⟨_, rfl⟩
            obtain ⟨G2, hG2⟩ : ∃ G, Hid (rowsS [99] (ls.take k) = G) := ⟨_, rfl⟩
            have gl : G1.length ≤ 18 ∧ G2.length ≤ 18 := by
              rw [← hG1.out, ← hG2.out]
              have a := List.length_filterMap_le (rowS [103]) (ls.take k)
              have b := List.length_filterMap_le (rowS [99]) (ls.take k)
              rw [List.length_take] at a b
              exact ⟨Nat.le_trans a (by omega), Nat.le_trans b (by omega)⟩
            obtain ⟨gl1, gl2⟩ := gl
            rw [hG1.out, hG2.out] at MU M5
            by_cases h1 : hd = [103]
            · subst h1
              have e1 : (bs [103]).toList = [103] := emp_bs _
              have e1' : ¬ (bs [103]).toList = [99] := by rw [emp_bs]; decide
              have R1 : Hid (rowsS [103] (ls.take (k + 1)) = G1 ++ [zs]) := by show _ = _; rw [rowsS_yes hxk.out hws.out rfl, hG1.out, hzs.out]
              have R2 : Hid (rowsS [99] (ls.take (k + 1)) = G2) := by show _ = _; rw [rowsS_no hxk.out hws.out (by decide), hG2.out]
              have d6 := M5.out.b6.cell; have e6 := M5.out.b6.free; have b6l := M5.out.b6.lt
              have XL : Hid (Ext wr (wr.alloc (.cells #[.slice A9 j c9] 31))) := Ext.alloc _ _
              have OL : Hid (OwnI 3 (wr.alloc (.cells #[.slice A9 j c9] 31)) w4.heap.size A9 j c9 zs) := Own.alloc O9.out _
              have KO := hide (own_row OL.out)
              have LL := hide (M5.out.l1.ext XL.out)
              have D1 : Hid (∀ i ∈ (A9.map (·.block)).toList, i ∉ f1) := fun i hi hm => by
                have h1 := MU.out.l1.lt i hm
                have h2 := X4.out.size
                cases A9 with
                | none => simp at hi
                | some a => simp at hi; subst hi; have := Own.fromLo O9.out a rfl; omega
              have D2 : Hid (∀ j2 u, [Value.slice A9 j c9][j2]? = some u → (wr.alloc (.cells #[.slice A9 j c9] 31)).cell? ⟨wr.heap.size, 0 + j2, none⟩ = some u) := row_src5 wr _ _
              have b1 : (G1.length + 1) * 24 ≤ 140737488355328 := by omega
              have b2 : G1.length + 1 ≤ 4611686018427387904 := by omega
              go_wp2_with (at_builtin; refine wpList_append_LO (K := kdL) rfl (.tmp 46) (.tmp 48) rfl elemN_row (by decide) rfl rfl rfl LL.out KO.out D1.out D2.out b1 b2 ?_)
              intro A3 c3 w6 f3 hap
              have AP := hide (MU.out.app1 (X5.out.trans XL.out) OL.out X4.out.size hap)
              have d7 := AP.out.1.cell; have e7 := AP.out.1.free; have b7l := AP.out.1.lt
              clear hap d6 e6
              go_wp2
              go_roundw
              case rel => exact ⟨k + 1, _, _, _, _, _, _, by omega, by go_num, by rw [R1.out, R2.out]; exact AP.out.2⟩
              case measure => simp [intOf]; omega
            · by_cases h2 : hd = [99]
              · subst h2
                have e1 : ¬ (bs [99]).toList = [103] := by rw [emp_bs]; decide
                have e1' : (bs [99]).toList = [99] := emp_bs _
                have R1 : Hid (rowsS [103] (ls.take (k + 1)) = G1) := by show _ = _; rw [rowsS_no hxk.out hws.out (by decide), hG1.out]
                have R2 : Hid (rowsS [99] (ls.take (k + 1)) = G2 ++ [zs]) := by show _ = _; rw [rowsS_yes hxk.out hws.out rfl, hG2.out, hzs.out]
                have d6 := M5.out.b6.cell; have e6 := M5.out.b6.free; have b6l := M5.out.b6.lt
                have XL : Hid (Ext wr (wr.alloc (.cells #[.slice A9 j c9] 31))) := Ext.alloc _ _
                have OL : Hid (OwnI 3 (wr.alloc (.cells #[.slice A9 j c9] 31)) w4.heap.size A9 j c9 zs) := Own.alloc O9.out _
                have KO := hide (own_row OL.out)
                have LL := hide (M5.out.l2.ext XL.out)
                have D1 : Hid (∀ i ∈ (A9.map (·.block)).toList, i ∉ f2) := fun i hi hm => by
                  have h1 := MU.out.l2.lt i hm
                  have h2 := X4.out.size
                  cases A9 with
                  | none => simp at hi
                  | some a => simp at hi; subst hi; have := Own.fromLo O9.out a rfl; omega
                have D2 : Hid (∀ j2 u, [Value.slice A9 j c9][j2]? = some u → (wr.alloc (.cells #[.slice A9 j c9] 31)).cell? ⟨wr.heap.size, 0 + j2, none⟩ = some u) := row_src5 wr _ _
                have b1 : (G2.length + 1) * 24 ≤ 140737488355328 := by omega
                have b2 : G2.length + 1 ≤ 4611686018427387904 := by omega
                go_wp2_with (at_builtin; refine wpList_append_LO (K := kdL) rfl (.tmp 54) (.tmp 56) rfl elemN_row (by decide) rfl rfl rfl LL.out KO.out D1.out D2.out b1 b2 ?_)
                intro A3 c3 w6 f3 hap
                have AP := hide (MU.out.app2 (X5.out.trans XL.out) OL.out X4.out.size hap)
                have d7 := AP.out.1.cell; have e7 := AP.out.1.free; have b7l := AP.out.1.lt
                clear hap d6 e6
                go_wp2
                go_roundw
                case rel => exact ⟨k + 1, _, _, _, _, _, _, by omega, by go_num, by rw [R1.out, R2.out]; exact AP.out.2⟩
                case measure => simp [intOf]; omega
              · have e1 : ((bs hd).toList == [103]) = false := by rw [emp_bs]; simpa using h1
                have e1' : ((bs hd).toList == [99]) = false := by rw [emp_bs]; simpa using h2
                have R1 : Hid (rowsS [103] (ls.take (k + 1)) = G1) := by show _ = _; rw [rowsS_no hxk.out hws.out h1, hG1.out]
                have R2 : Hid (rowsS [99] (ls.take (k + 1)) = G2) := by show _ = _; rw [rowsS_no hxk.out hws.out h2, hG2.out]
                go_wp2
                go_roundw
                case rel => exact ⟨k + 1, _, _, _, _, _, _, by omega, by go_num, by rw [R1.out, R2.out]; exact M5.out⟩
                case measure => simp [intOf]; omega
      · obtain rfl : k = n := by omega
        rw [List.take_of_length_le (by rw [hn.out]; exact Nat.le_refl _)] at MU
        have OK : Hid (kM.ok (rowsS [103] ls, rowsS [99] ls)) := by rw [← hls.out]; exact rows_okS hl
        have PN : Hid (marksB (rowsS [103] ls, rowsS [99] ls) = false ∨ marksT (rowsS [103] ls, rowsS [99] ls) ≠ y0 → parseF y0 = (([], []), false)) := fun h => parseS_no (by rw [hls.out]; exact h)
        obtain ⟨G1, hG1⟩ : ∃ G, Hid (rowsS [103] ls = G) := ⟨_, rfl⟩
        obtain ⟨G2, hG2⟩ : ∃ G, Hid (rowsS [99] ls = G) := ⟨_, rfl⟩
        rw [hG1.out, hG2.out] at MU OK PN
        obtain ⟨n1, hn1⟩ : ∃ n1, Hid (G1.length = n1) := ⟨_, rfl⟩
        obtain ⟨n2, hn2⟩ : ∃ n2, Hid (G2.length = n2) := ⟨_, rfl⟩
        have MR := hide MU.out.rd
        have MKA := hide (s.mkAll_any A1 A2 c1 c2 wr.heap.size (G1, G2) wr MU.out.l1.rd MU.out.l2.rd (Nat.le_refl _) OK.out)
        have d6 := MU.out.b6.cell
        rw [hn1.out, hn2.out] at MR d6
        have MKB : Hid (Calls Tryz.prog 30 #[.agg #[.slice A1 n1 c1, .slice A2 n2 c2]] wr fun e w' => e = .returned (.bool (marksB (G1, G2))) ∧ Ext wr w') := by rw [← hn1.out, ← hn2.out]; exact MKA.out
        go_wp2_with fail
        refine MKB.out.mono ?_
        rintro e w5 ⟨rfl, x5⟩
        have M5 := hide (MU.out.ext x5)
        have X5 := hide x5
        clear x5 MKA MKB d6
        cases hmb : marksB (G1, G2)
        · have PF := hide (parse_fail (u := .slice none 0 0) (v := .slice none 0 0) (PN.out (.inl hmb)) (X2.out.trans M5.out.x) gw)
          have d2 := M5.out.b2.cell; have e2 := M5.out.b2.free
          clear hmb
          go_wp2
          refine bodyPost_ret (v := .tuple #[noMarks, .bool false]) (by simp [results, Tryz.results16, go_sem, d2, noMarks]) rfl ?_
          exact PF.out
        · have MT := hide (s.mkText_m w5 _ (G1, G2) (kM.rd_ext MR.out X5.out) hmb)
          have HMB := hide hmb
          clear hmb
          have d6 := M5.out.b6.cell
          rw [hn1.out, hn2.out] at d6
          obtain ⟨T, hT⟩ : ∃ T, Hid (marksT (G1, G2) = T) := ⟨_, rfl⟩
          rw [hT.out] at MT
          go_wp2_with fail
          refine MT.out.mono ?_
          rintro e w6 ⟨rfl, x6⟩
          have M6 := hide (M5.out.ext x6)
          clear x6 d6
          have d2 := M6.out.b2.cell; have e2 := M6.out.b2.free
          have d7 := M6.out.b6.cell
          rw [hn1.out, hn2.out] at d7
          by_cases he : T = y0
          · have e1 : ((bs T).toList == (bs y0).toList) = true := by rw [emp_bs, emp_bs, he]; simp
            have PE : Hid (parseF y0 = ((G1, G2), true)) := parseF_some HMB.out (hT.out.trans he)
            have FN := hide (fun (u0 u1 : Value) => M6.out.fin (u0 := u0) (u1 := u1))
            have sz := X2.out.size
            rw [hn1.out, hn2.out] at FN
            clear he
            go_wp2
            refine bodyPost_ret (v := .tuple #[.agg #[.slice A1 n1 c1, .slice A2 n2 c2], .bool true]) (by simp [results, Tryz.results16, go_sem, d2]) rfl ?_
            exact ⟨_, by rw [PE.out], by rw [PE.out]; exact kM.fr_mono (FN.out _ _) sz (Nat.le_refl _), by rw [PE.out]; exact OK.out, Below.setCell (Below.setCell (X2.out.trans M6.out.x) gw _) gw _⟩
          · have e1 : ((bs T).toList == (bs y0).toList) = false := by rw [emp_bs, emp_bs]; simpa using he
            have PF := hide (parse_fail (u := .slice none 0 0) (v := .slice none 0 0) (PN.out (.inr (by rw [hT.out]; exact he))) (X2.out.trans M6.out.x) gw)
            go_wp2
            refine bodyPost_ret (v := .tuple #[noMarks, .bool false]) (by simp [results, Tryz.results16, go_sem, d2, noMarks]) rfl ?_
            exact PF.out
end Go.Proofs.YtnokilofcdbjhaaGreatDoor
