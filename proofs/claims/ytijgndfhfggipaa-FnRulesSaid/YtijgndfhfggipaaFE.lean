/- The room that a list leaves in each family: RoomIn of both. (Printed by fe.py.) -/
import Derived.Test.YtijgndfhfggipaaFD
namespace Go.Proofs.Ytijgndfhfggipaa
open Go.RowKit Go.Sort
set_option linter.unusedVariables false

theorem roomL_len (d : CoD) (xs : List ItD) (k : Nat) : (roomL d xs k).length = 5 := by simp [roomL]
theorem roomL_zero (d : CoD) (xs : List ItD) : roomL d xs 0 = fcL d xs xs.length := by
  apply List.ext_getElem?
  intro i
  by_cases hi : i < 5
  · unfold roomL
    rw [List.getElem?_map, List.getElem?_range hi]
    have h1 : (fcL d xs xs.length)[i]? = some ((fcL d xs xs.length).getD i 0) := by
      rw [List.getD_eq_getElem?_getD, List.getElem?_eq_getElem (by rw [fcL_len]; exact hi)]; rfl
    rw [h1]
    simp
  · rw [List.getElem?_eq_none (by rw [roomL_len]; omega), List.getElem?_eq_none (by rw [fcL_len]; omega)]
theorem roomL_at (d : CoD) (xs : List ItD) (k : Nat) (h : k < 5) : (roomL d xs k).getD k 0 = (fcL d xs xs.length).getD k 0 := by
  unfold roomL
  rw [List.getD_eq_getElem?_getD, List.getElem?_map, List.getElem?_range h]
  simp
theorem roomL_succ (d : CoD) (xs : List ItD) (k : Nat) (h : k < 5) : roomL d xs (k + 1) = (roomL d xs k).set k (d.2.1.getD k 0 - (fcL d xs xs.length).getD k 0) := by
  apply List.ext_getElem?
  intro i
  rw [List.getElem?_set, roomL_len]
  by_cases hi : i < 5
  · have e : ∀ m, (roomL d xs m)[i]? = some (if i < m then d.2.1.getD i 0 - (fcL d xs xs.length).getD i 0 else (fcL d xs xs.length).getD i 0) := fun m => by
      unfold roomL
      rw [List.getElem?_map, List.getElem?_range hi]
      rfl
    rw [e, e]
    by_cases hk : k = i
    · subst hk
      rw [if_pos rfl, if_pos h, if_pos (by omega)]
    · rw [if_neg hk]
      congr 1
      by_cases hl : i < k
      · rw [if_pos hl, if_pos (by omega)]
      · rw [if_neg hl, if_neg (by omega)]
  · rw [List.getElem?_eq_none (by rw [roomL_len]; omega), List.getElem?_eq_none (by rw [roomL_len]; omega), if_neg (by omega)]
theorem kC.lim1 {w : World} {A1 A2 : Option Addr} {n1 c1 n2 c2 : Nat} {r bo k f : Int} {d : CoD} (h : kC.rd w (.agg #[.slice A1 n1 c1, .slice A2 n2 c2, .int .i64 r, .int .i64 bo, .int .i64 k, .int .i64 f]) d) :
    n2 = d.2.1.length ∧ LR kdInt w w.heap.size A2 c2 d.2.1 := by
  obtain ⟨Ac, cc, Al, cl, hv, h1, h2⟩ := kC.lr h
  simp only [Value.agg.injEq, Array.mk.injEq, List.cons.injEq, Value.slice.injEq, and_true] at hv
  obtain ⟨_, ⟨rfl, rfl, rfl⟩, _⟩ := hv
  exact ⟨rfl, h2⟩
set_option maxRecDepth 100000 in
set_option maxHeartbeats 1000000 in
theorem i.RoomIn_c (w : World) (v : Value) (d : CoD) (A : Option Addr) (c : Nat) (xs : List ItD) (h : kC.rd w v d) (hok : kC.ok d) (hl : LR kdItem w w.heap.size A c xs) (hw : wtL kdItem xs ≤ 1048576) :
    Calls Try.prog 11 #[v, .slice A xs.length c] w fun e w' => ∃ A' n' c', e = .returned (.tuple #[.slice A' n' c', .bool (roomLaw d xs).2]) ∧ OwnI 3 w' w.heap.size A' n' c' (roomLaw d xs).1 ∧ n' ≤ 5 ∧ Ext w w' := by
  obtain ⟨Ac, nc, cc, Al, nl, cl, r, b, p, f, rfl⟩ := kC.shape h
  have hlen := Nat.le_trans (wtL_len kdItem xs) hw
  have a1 := hl.1; have a2 := hl.2.1
  have hwt := hide (fun (k : Nat) (x : ItD) (hk : xs[k]? = some x) => Nat.le_trans (wtL_at kdItem xs k x hk) hw)
  have IC := hide (fun (wq : World) (xq : Ext w wq) => i.IsCode_m wq _ d (kC.rd_ext h xq) hok)
  have II := hide (fun (wq : World) (xq : Ext w wq) => i.AreItems_wk wq A c w.heap.size xs (hl.ext xq (Nat.le_refl _)) xq.size hlen hwt.out)
  have BD := hide (fun (h1 : codeB d = true) (h2 : itemsB xs = true) (wq : World) (xq : Ext w wq) => i.familyCounts_m wq _ d A c w.heap.size xs (kC.rd_ext h xq) hok (codeB_ok h1) (hl.ext xq (Nat.le_refl _)) xq.size (pgOk h1 h2 hw).n14 (pgOk h1 h2 hw).n3)
  have LM := hide (kC.lim1 h)
  obtain ⟨F, hF⟩ : ∃ F, Hid (roomLaw d xs = F) := ⟨_, rfl⟩
  rw [hF.out]
  clear h hl hw hwt
  obtain ⟨W0, hW0⟩ : ∃ W0, Hid (W0 = w.alloc (.cells #[.slice Ac nc cc, .slice Al nl cl, .int .i64 r, .int .i64 b, .int .i64 p, .int .i64 f] 26)) := ⟨_, rfl⟩
  have X0 : Hid (Ext w W0) := by rw [hW0.out]; exact Ext.alloc w _
  have B0 : Hid (Blk W0 w.heap.size #[.slice Ac nc cc, .slice Al nl cl, .int .i64 r, .int .i64 b, .int .i64 p, .int .i64 f] 26) := by rw [hW0.out]; exact Blk.new rfl _ _
  obtain ⟨n, hn⟩ : ∃ n, Hid (xs.length = n) := ⟨_, rfl⟩
  rw [hn.out] at a1 hlen II BD ⊢
  go_enter Try.func11, Try.ntmps11
  go_wp2_with fail
  rw [← hW0.out]
  clear hW0
  refine (IC.out W0 X0.out).mono ?_
  rintro e w1 ⟨rfl, x1⟩
  have X1 := hide (X0.out.trans x1)
  have B1 := hide (B0.out.ext x1)
  have cB := B1.out.cell
  clear x1 IC X0 B0
  cases h1 : codeB d
  · have HF : Hid (F = ([], false)) := by show _ = _; rw [← hF.out]; unfold roomLaw; rw [h1]; rfl
    clear h1 BD
    go_wp2
    go_ret2
    rw [HF.out]
    exact ⟨none, 0, 0, rfl, OwnI.nil, by omega, X1.out⟩
  · go_wp2_with fail
    refine (II.out w1 X1.out).mono ?_
    rintro e w2 ⟨rfl, x2⟩
    have X2 := hide (X1.out.trans x2)
    have B2 := hide (B1.out.ext x2)
    clear cB
    have cB := B2.out.cell
    clear x2 II B1 X1
    cases h2 : itemsB xs
    · have HF : Hid (F = ([], false)) := by show _ = _; rw [← hF.out]; unfold roomLaw; rw [h1, h2]; rfl
      clear h1 h2 BD
      go_wp2
      go_ret2
      rw [HF.out]
      exact ⟨none, 0, 0, rfl, OwnI.nil, by omega, X2.out⟩
    · have HF : Hid (F = (roomL d xs 5, true)) := by show _ = _; rw [← hF.out]; unfold roomLaw; rw [h1, h2]; rfl
      have BQ := hide (BD.out h1 h2 w2 X2.out)
      have CD := hide (codeB_ok h1)
      clear h1 h2 BD
      go_wp2_with fail
      refine BQ.out.mono ?_
      rintro e w3 ⟨A', c', rfl, ho, x3⟩
      have X3 := hide (X2.out.trans x3)
      have B3 := hide (B2.out.ext x3)
      obtain ⟨g, rfl, gl, gw, gc⟩ := ho.pos (by decide)
      have O3 := hide (ho.lower X2.out.size)
      have gne : w.heap.size < g := by have := B2.out.lt; omega
      clear x3 ho cB BQ
      rw [← hn.out, ← roomL_zero] at O3
      have RS := hide (fun k => roomL_succ d xs k)
      have RA := hide (fun k => roomL_at d xs k)
      have FB := hide (fun k => fcL_bd d xs xs.length k)
      have n14 := hlen
      have LB := CD.out.limb
      have L5 : nl = 5 := by rw [LM.out.1]; exact CD.out.lim
      subst L5
      have LL := LM.out.2
      go_wp2
      go_loopw [22] (fun i wr => ∃ k : Nat, k ≤ 5 ∧ i = .int .i64 k ∧ OwnI 3 wr w.heap.size (some ⟨g, 0, none⟩) 5 c' (roomL d xs k) ∧ Ext w wr ∧ Blk wr w.heap.size #[.slice Ac nc cc, .slice Al 5 cl, .int .i64 r, .int .i64 b, .int .i64 p, .int .i64 f] 26) (fun i _ => 5 - (intOf i).toNat)
      case atStart => exact ⟨0, by omega, by go_num, O3.out, X3.out, B3.out⟩
      case round =>
        obtain ⟨k, hk, rfl, ho, hx, hb⟩ := hrel
        have OK := hide ho
        have HX := hide hx
        have HB := hide hb
        clear ho hx hb
        by_cases hlt : k < 5
        · have hltz : (k : Int) < 5 := by omega
          have cg := OK.out.cell k hlt
          have fg := OK.out.free k
          have rs := hide (RS.out k hlt)
          rw [RA.out k hlt] at cg
          have fb := FB.out k
          have hnx := hn.out
          have hkl : k < d.2.1.length := by have := LM.out.1; omega
          obtain ⟨bl, ol, rfl, hbl, hcl⟩ := (LL.ext HX.out (Nat.le_refl _)).sl.cells (by omega)
          have lk := hcl k hkl
          have l1 := LL.1; have l2 := LL.2.1
          rw [← LM.out.1] at l1
          have lb : 0 ≤ d.2.1.getD k 0 ∧ d.2.1.getD k 0 ≤ 9 := LB _ (by rw [List.getD_eq_getElem?_getD, List.getElem?_eq_getElem hkl]; exact List.getElem_mem _)
          clear hcl hkl
          generalize (fcL d xs xs.length).getD k 0 = y at *
          generalize d.2.1.getD k 0 = z at *
          obtain ⟨lb1, lb2⟩ := lb
          obtain ⟨fb1, fb2⟩ := fb
          have ew1 : -9223372036854775808 ≤ z - y := by omega
          have ew2 : z - y ≤ 9223372036854775807 := by omega
          have cB := HB.out.cell
          have lB := HB.out.lt
          go_wp2
          go_roundw
          case rel => exact ⟨k + 1, by omega, by go_num, by rw [rs.out]; exact OK.out.set k _, Below.setCell HX.out (by show w.heap.size ≤ g; omega) _, HB.out.far (by show w.heap.size ≠ g; omega) _⟩
          case measure => simp [intOf]; omega
        · obtain rfl : k = 5 := by omega
          go_wp2
          go_ret2
          rw [HF.out]
          exact ⟨_, 5, c', rfl, OK.out, Nat.le_refl _, HX.out⟩
set_option maxRecDepth 100000 in
set_option maxHeartbeats 1000000 in
theorem s.RoomIn_c (w : World) (v : Value) (d : CoD) (A : Option Addr) (c : Nat) (xs : List ItD) (h : kC.rd w v d) (hok : kC.ok d) (hl : LR kdItem w w.heap.size A c xs) (hw : wtL kdItem xs ≤ 1048576) :
    Calls Try.prog 12 #[v, .slice A xs.length c] w fun e w' => ∃ A' n' c', e = .returned (.tuple #[.slice A' n' c', .bool (roomLaw d xs).2]) ∧ OwnI 3 w' w.heap.size A' n' c' (roomLaw d xs).1 ∧ n' ≤ 5 ∧ Ext w w' := by
  obtain ⟨Ac, nc, cc, Al, nl, cl, r, b, p, f, rfl⟩ := kC.shape h
  have hlen := Nat.le_trans (wtL_len kdItem xs) hw
  have a1 := hl.1; have a2 := hl.2.1
  have hwt := hide (fun (k : Nat) (x : ItD) (hk : xs[k]? = some x) => Nat.le_trans (wtL_at kdItem xs k x hk) hw)
  have PA := hide (fun (wq : World) (xq : Ext w wq) => s.pgAsked_m wq _ d A c w.heap.size xs (kC.rd_ext h xq) hok (hl.ext xq (Nat.le_refl _)) xq.size hw)
  have BD := hide (fun (h1 : codeB d = true) (h2 : itemsB xs = true) (wq : World) (xq : Ext w wq) => s.pgCounts_m wq _ d A c w.heap.size xs (kC.rd_ext h xq) hok (codeB_ok h1) (hl.ext xq (Nat.le_refl _)) xq.size (pgOk h1 h2 hw).n14 (pgOk h1 h2 hw).n3)
  have LM := hide (kC.lim1 h)
  obtain ⟨F, hF⟩ : ∃ F, Hid (roomLaw d xs = F) := ⟨_, rfl⟩
  rw [hF.out]
  clear h hl hw hwt
  obtain ⟨W0, hW0⟩ : ∃ W0, Hid (W0 = w.alloc (.cells #[.slice Ac nc cc, .slice Al nl cl, .int .i64 r, .int .i64 b, .int .i64 p, .int .i64 f] 26)) := ⟨_, rfl⟩
  have X0 : Hid (Ext w W0) := by rw [hW0.out]; exact Ext.alloc w _
  have B0 : Hid (Blk W0 w.heap.size #[.slice Ac nc cc, .slice Al nl cl, .int .i64 r, .int .i64 b, .int .i64 p, .int .i64 f] 26) := by rw [hW0.out]; exact Blk.new rfl _ _
  obtain ⟨n, hn⟩ : ∃ n, Hid (xs.length = n) := ⟨_, rfl⟩
  rw [hn.out] at a1 hlen PA BD ⊢
  go_enter Try.func12, Try.ntmps12
  go_wp2_with fail
  rw [← hW0.out]
  clear hW0
  refine (PA.out W0 X0.out).mono ?_
  rintro e w1 ⟨rfl, x1⟩
  have X1 := hide (X0.out.trans x1)
  have B1 := hide (B0.out.ext x1)
  have cB := B1.out.cell
  clear x1 PA X0 B0
  cases h0 : (codeB d && itemsB xs)
  · have HF : Hid (F = ([], false)) := by show _ = _; rw [← hF.out]; unfold roomLaw; rw [h0]; rfl
    clear h0 BD
    go_wp2
    go_ret2
    rw [HF.out]
    exact ⟨none, 0, 0, rfl, OwnI.nil, by omega, X1.out⟩
  · have h1 : codeB d = true := by rw [Bool.and_eq_true] at h0; exact h0.1
    have h2 : itemsB xs = true := by rw [Bool.and_eq_true] at h0; exact h0.2
    have HF : Hid (F = (roomL d xs 5, true)) := by show _ = _; rw [← hF.out]; unfold roomLaw; rw [h0]; rfl
    have BQ := hide (BD.out h1 h2 w1 X1.out)
    have CD := hide (codeB_ok h1)
    clear h0 h1 h2 BD
    go_wp2_with fail
    refine BQ.out.mono ?_
    rintro e w3 ⟨A', c', rfl, ho, x3⟩
    have X3 := hide (X1.out.trans x3)
    have B3 := hide (B1.out.ext x3)
    obtain ⟨g, rfl, gl, gw, gc⟩ := ho.pos (by decide)
    have O3 := hide (ho.lower X1.out.size)
    have gne : w.heap.size < g := by have := B1.out.lt; omega
    clear x3 ho cB BQ
    rw [← hn.out, ← roomL_zero] at O3
    have RS := hide (fun k => roomL_succ d xs k)
    have RA := hide (fun k => roomL_at d xs k)
    have FB := hide (fun k => fcL_bd d xs xs.length k)
    have n14 := hlen
    have LB := CD.out.limb
    have L5 : nl = 5 := by rw [LM.out.1]; exact CD.out.lim
    subst L5
    have LL := LM.out.2
    go_wp2
    go_loopw [18] (fun i wr => ∃ k : Nat, k ≤ 5 ∧ i = .int .i64 k ∧ OwnI 3 wr w.heap.size (some ⟨g, 0, none⟩) 5 c' (roomL d xs k) ∧ Ext w wr ∧ Blk wr w.heap.size #[.slice Ac nc cc, .slice Al 5 cl, .int .i64 r, .int .i64 b, .int .i64 p, .int .i64 f] 26) (fun i _ => 5 - (intOf i).toNat)
    case atStart => exact ⟨0, by omega, by go_num, O3.out, X3.out, B3.out⟩
    case round =>
      obtain ⟨k, hk, rfl, ho, hx, hb⟩ := hrel
      have OK := hide ho
      have HX := hide hx
      have HB := hide hb
      clear ho hx hb
      by_cases hlt : k < 5
      · have hltz : (k : Int) < 5 := by omega
        have cg := OK.out.cell k hlt
        have fg := OK.out.free k
        have rs := hide (RS.out k hlt)
        rw [RA.out k hlt] at cg
        have fb := FB.out k
        have hnx := hn.out
        have hkl : k < d.2.1.length := by have := LM.out.1; omega
        obtain ⟨bl, ol, rfl, hbl, hcl⟩ := (LL.ext HX.out (Nat.le_refl _)).sl.cells (by omega)
        have lk := hcl k hkl
        have l1 := LL.1; have l2 := LL.2.1
        rw [← LM.out.1] at l1
        have lb : 0 ≤ d.2.1.getD k 0 ∧ d.2.1.getD k 0 ≤ 9 := LB _ (by rw [List.getD_eq_getElem?_getD, List.getElem?_eq_getElem hkl]; exact List.getElem_mem _)
        clear hcl hkl
        generalize (fcL d xs xs.length).getD k 0 = y at *
        generalize d.2.1.getD k 0 = z at *
        obtain ⟨lb1, lb2⟩ := lb
        obtain ⟨fb1, fb2⟩ := fb
        have ew1 : -9223372036854775808 ≤ z - y := by omega
        have ew2 : z - y ≤ 9223372036854775807 := by omega
        have cB := HB.out.cell
        have lB := HB.out.lt
        go_wp2
        go_roundw
        case rel => exact ⟨k + 1, by omega, by go_num, by rw [rs.out]; exact OK.out.set k _, Below.setCell HX.out (by show w.heap.size ≤ g; omega) _, HB.out.far (by show w.heap.size ≠ g; omega) _⟩
        case measure => simp [intOf]; omega
      · obtain rfl : k = 5 := by omega
        go_wp2
        go_ret2
        rw [HF.out]
        exact ⟨_, 5, c', rfl, OK.out, Nat.le_refl _, HX.out⟩
end Go.Proofs.Ytijgndfhfggipaa
