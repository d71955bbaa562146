/- The draw of marks and of a judge's marks to be added. -/
import Derived.Test.YtnokilofcdbjhaaGreatDoorDI
namespace Go.Proofs.YtnokilofcdbjhaaGreatDoor
open Go.RowKit Go.Sort
set_option linter.unusedVariables false

theorem kI_own {w : World} {lo n c : Nat} {A : Option Addr} {zs : List Int} (h : OwnI 3 w lo A n c zs) : kI.rd w (.slice A n c) zs := by
  have hl := h.len
  have h1 := h.sl; have h2 := h.capn; have h3 := h.capm
  subst hl
  exact ⟨A, c, rfl, h1, h2, h3⟩
theorem kI_blk {w : World} {b : Nat} {zs : List Int} {e : TypeId} (h : Blk w b (zs.map (Value.int .i64)).toArray e) (hn : zs.length ≤ 1048576) : kI.rd w (.slice (some ⟨b, 0, none⟩) zs.length zs.length) zs := by
  refine ⟨_, _, rfl, ⟨by simp, fun _ => ⟨b, 0, rfl, h.lt, fun k u hk => ?_⟩⟩, Nat.le_refl _, by omega⟩
  rw [Nat.zero_add, h.cell k]
  simpa using hk
theorem OwnI.far {e : TypeId} {w : World} {lo n c : Nat} {A : Option Addr} {zs : List Int} (h : OwnI e w lo A n c zs) {b k : Nat} (hb : b < lo) (u : Value) : OwnI e (w.setCell ⟨b, k, none⟩ u) lo A n c zs :=
  own_tch h (TchF.put w ⟨b, k, none⟩ u (fp := [b]) (by simp)) (fun p hp => by have := Own.fromLo h p hp; simp; omega)
theorem aj_fin {w wz : World} {lo lo2 gC k c5 : Nat} {v u0 u1 : Value} {d : MD} {A5 : Option Addr} {zs cs : List Int} (hr : RdA kM lo wz v d) (hl : w.heap.size < lo) (hok : kM.ok d) (ho : OwnI 3 wz lo2 A5 k c5 zs) (hl2 : w.heap.size < lo2) (hk : kI.ok zs)
    (hb : Blk wz gC (cs.map (Value.int .i64)).toArray 3) (hc : w.heap.size < gC) (h3 : cs.length = 3) (hx : Ext w wz) :
    ∃ v' v1 v2 d gs cs, Ending.returned (.tuple #[v, .slice A5 k c5, .slice (some ⟨gC, 0, none⟩) 3 3]) = .returned (.tuple #[v', v1, v2]) ∧ kM.rd ((wz.setCell ⟨w.heap.size, 0, none⟩ u0).setCell ⟨w.heap.size, 1, none⟩ u1) v' d ∧ kM.ok d ∧ kI.rd ((wz.setCell ⟨w.heap.size, 0, none⟩ u0).setCell ⟨w.heap.size, 1, none⟩ u1) v1 gs ∧ kI.ok gs ∧ kI.rd ((wz.setCell ⟨w.heap.size, 0, none⟩ u0).setCell ⟨w.heap.size, 1, none⟩ u1) v2 cs ∧ kI.ok cs ∧ Ext w ((wz.setCell ⟨w.heap.size, 0, none⟩ u0).setCell ⟨w.heap.size, 1, none⟩ u1) := by
  obtain ⟨e1, e2⟩ := kM.end2 (u0 := u0) (u1 := u1) hr hl hx
  have n2 : kI.rd ((wz.setCell ⟨w.heap.size, 0, none⟩ u0).setCell ⟨w.heap.size, 1, none⟩ u1) (.slice (some ⟨gC, 0, none⟩) 3 3) cs := by
    have := kI_blk (zs := cs) ((hb.far (p := ⟨w.heap.size, 0, none⟩) (by simp; omega) u0).far (p := ⟨w.heap.size, 1, none⟩) (by simp; omega) u1) (by omega)
    rwa [h3] at this
  exact ⟨v, _, _, d, zs, cs, rfl, e1, hok, kI_own ((ho.far hl2 u0).far hl2 u1), hk, n2, by show cs.length ≤ _; omega, e2⟩
set_option maxRecDepth 100000 in
set_option maxHeartbeats 4000000 in
theorem s.DrawAddJudge_m (w : World) (A : Option Addr) (n c : Nat) (h : ArgB w A n c) :
    Calls Tryz.prog 11 #[.slice A n c] w fun e w' => ∃ v v1 v2 d gs cs, e = .returned (.tuple #[v, v1, v2]) ∧ kM.rd w' v d ∧ kM.ok d ∧ kI.rd w' v1 gs ∧ kI.ok gs ∧ kI.rd w' v2 cs ∧ kI.ok cs ∧ Ext w w' := by
  obtain ⟨W0, hW0⟩ : ∃ W0, Hid (W0 = (w.alloc (.cells #[.slice none 0 0, .slice none 0 0] 25)).alloc (.cells #[.slice A n c, .int .i64 0, .int .u64 0] 65)) := ⟨_, rfl⟩
  obtain ⟨g, hg⟩ : ∃ g, Hid (g = w.heap.size + 1) := ⟨_, rfl⟩
  have gl : w.heap.size < g := by rw [hg.out]; omega
  have CU : Hid (Cur W0 g 0) := by
    rw [hW0.out, hg.out]
    have := Cur.new (h.ext (Ext.alloc w (.cells #[.slice none 0 0, .slice none 0 0] 25)))
    show Cur _ _ _
    simpa using this
  have X : Hid (Ext w W0) := by rw [hW0.out]; exact (Ext.alloc w _).trans (Ext.alloc _ _)
  have BX : Hid (Blk W0 w.heap.size #[.slice none 0 0, .slice none 0 0] 25) := by rw [hW0.out]; exact (Blk.new rfl _ _).alloc _
  clear h
  go_enter Tryz.func11, Tryz.ntmps11
  go_wp2_with fail
  rw [← hW0.out, ← hg.out]
  clear hW0 hg
  refine (cu.pick_m W0 g _ 5 CU.out (by omega) (by unfold InR; omega)).mono ?_
  rintro e w1 ⟨m1', rfl, a1, b1', -, c1, k1⟩
  have b1 := b1' (by omega)
  clear b1'
  obtain ⟨m1, rfl⟩ : ∃ m : Nat, m1' = m := ⟨m1'.toNat, by omega⟩
  replace X := hide (TchF.ext_of X.out k1 (by omega))
  replace BX := hide (BX.out.tchF k1 (by simp; omega))
  replace CU := hide c1
  clear c1 k1
  go_wp2_with fail
  refine (cu.anyMarks_m w1 g _ m1 CU.out (by omega) (by omega)).mono ?_
  rintro e w2 ⟨v, d, rfl, hr, hok, c2, k2⟩
  replace X := hide (TchF.ext_of X.out k2 (by omega))
  replace BX := hide (BX.out.tchF k2 (by simp; omega))
  have hlo : w.heap.size < w1.heap.size ∧ g < w1.heap.size := by have := CU.out.lt; omega
  obtain ⟨A1, n1, e1, A2, n2, e2, rfl⟩ := kM.shape hr.rd
  have OK := hide hok
  replace CU := hide c2
  obtain ⟨Wa, hWa⟩ : ∃ Wa, Hid (Wa = w2.alloc (.cells #[.slice A1 n1 e1, .slice A2 n2 e2] 25)) := ⟨_, rfl⟩
  obtain ⟨gB, hgB⟩ : ∃ gB, Hid (gB = w2.heap.size) := ⟨_, rfl⟩
  have xa : Ext w2 Wa := by rw [hWa.out]; exact Ext.alloc _ _
  have BV : Hid (Blk Wa gB #[.slice A1 n1 e1, .slice A2 n2 e2] 25) := by rw [hWa.out, hgB.out]; exact Blk.new rfl _ _
  have gw : g < gB := by rw [hgB.out]; exact CU.out.lt
  have RD := hide (hr.ext xa)
  have wx : w.heap.size < gB := by have := k2.size; rw [hgB.out]; omega
  replace CU := hide (CU.out.ext xa)
  replace X := hide (X.out.trans xa)
  replace BX := hide (BX.out.ext xa)
  clear hr hok c2 k2 xa
  go_wp2
  rw [← hWa.out, ← hgB.out]
  clear hWa hgB
  go_loopw [8] (fun l wr => ∃ (k : Nat) (A5 : Option Addr) (c5 : Nat) (zs : List Int), l = .slice A5 k c5 ∧ k ≤ 5 ∧ OwnI 3 wr Wa.heap.size A5 k c5 zs ∧ Cur wr g (2 + 20 * m1 + 200 + 6 * k) ∧ TchF [g] Wa wr) (fun l _ => 6 - lenV l)
  case atStart => exact ⟨0, none, 0, [], rfl, by omega, OwnI.nil, CU.out.more (by omega), TchF.of_ext (Ext.refl _)⟩
  case round =>
    clear CU
    obtain ⟨k, A5, c5, zs, rfl, hk, own, cur, kt⟩ := hrel
    have OW := hide own
    have CU := hide cur
    have KT := hide kt
    have ca := own.capn; have cb := own.capm
    clear own cur kt
    go_wp2_with fail
    refine (cu.pick_m wr g _ 16 CU.out (by omega) (by unfold InR; omega)).mono ?_
    rintro e w3 ⟨r, rfl, r0, r1', -, c3, k3⟩
    have r1 := r1' (by omega)
    clear r1'
    have O3 := hide (own_tch OW.out k3 (fun p hp => by have := Own.fromLo OW.out p hp; have := BV.out.lt; simp; omega))
    have C3 := hide c3
    have K3 := hide (KT.out.trans k3)
    clear c3 k3 OW CU KT
    by_cases hlt : (k : Int) < (m1 : Int) + r / 15
    · go_wp2_with fail
      refine (cu.pick_m w3 g _ 11 C3.out (by omega) (by unfold InR; omega)).mono ?_
      rintro e w4 ⟨p, rfl, p0, p1', -, c4, k4⟩
      have p1 := p1' (by omega)
      have O4 := hide (own_tch O3.out k4 (fun p hp => by have := Own.fromLo O3.out p hp; have := BV.out.lt; simp; omega))
      have C4 := hide c4
      have K4 := hide (K3.out.trans k4)
      clear c4 k4 p1' O3 C3 K3
      go_wp2_with fail
      refine (cu.pick_m w4 g _ 24 C4.out (by omega) (by unfold InR; omega)).mono ?_
      rintro e w5 ⟨q, rfl, q0, q1', -, c5', k5⟩
      have q1 := q1' (by omega)
      have O5 := hide (own_tch O4.out k5 (fun p hp => by have := Own.fromLo O4.out p hp; have := BV.out.lt; simp; omega))
      have C5 := hide c5'
      have K5 := hide (K4.out.trans k5)
      clear c5' k5 q1' O4 C4 K4
      obtain ⟨y, hy⟩ : ∃ y, Hid (y = p - 5 + q / 23) := ⟨_, rfl⟩
      have sz5 := K5.out.size
      go_wp2_with (at_builtin; rw [← hy.out]; refine wpList_append_sl rfl (.tmp 26) (.tmp 34) rfl elem_int rfl rfl (Own.alloc O5.out _) (Sl.one w5 (.int .i64 y) 3) (one_int y) ?c1 ?c2 ?c3 ?_)
      case c1 => omega
      case c2 => omega
      case c3 => simp; omega
      intro A6 c6 w6 hap
      have fB : ∀ i ∈ (A5.map (·.block)).toList, Wa.heap.size ≤ i := fun i hi => by
        obtain ⟨p, hp, rfl⟩ := mem_of_opt hi
        exact Own.fromLo O5.out p hp
      have tg := TchF.of_grown (fp := (A5.map (·.block)).toList) hap.grew (fun p hp => by subst hp; simp)
      have xl := Ext.alloc w5 (.cells #[.int .i64 y] 3)
      have bl := BV.out.lt
      have C6 := hide ((C5.out.ext xl).tchF tg (fun i hi => by have := fB i hi; omega))
      have K6 := hide ((K5.out.stepX xl).step tg (fun i hi => .inr (fB i hi)))
      have O6 := hide (row_apd hap)
      clear hap tg fB xl
      go_wp2
      go_roundw
      case rel => exact ⟨k + 1, A6, c6, zs ++ [y], by go_num, by omega, O6.out, C6.out.more (by omega), K6.out⟩
      case measure => simp [lenV]; omega
    · have sz3 := K3.out.size
      go_wp2_with fail
      refine (cu.pick_m w3 g _ 41 C3.out (by omega) (by unfold InR; omega)).mono ?_
      rintro e w4 ⟨p, rfl, p0, p1', -, c4, k4⟩
      have p1 := p1' (by omega)
      have O4 := hide (own_tch O3.out k4 (fun p hp => by have := Own.fromLo O3.out p hp; have := BV.out.lt; simp; omega))
      have K4 := hide (K3.out.trans k4)
      obtain ⟨y, hy⟩ : ∃ y, Hid (25 * p = y) := ⟨_, rfl⟩
      obtain ⟨Wc, hWc⟩ : ∃ Wc, Hid (Wc = w4.alloc (.cells #[.int .i64 y, .int .i64 500, .int .i64 0] 3)) := ⟨_, rfl⟩
      obtain ⟨gC, hgC⟩ : ∃ gC, Hid (gC = w4.heap.size) := ⟨_, rfl⟩
      have xc : Ext w4 Wc := by rw [hWc.out]; exact Ext.alloc _ _
      have BC : Hid (Blk Wc gC #[.int .i64 y, .int .i64 500, .int .i64 0] 3) := by rw [hWc.out, hgC.out]; exact Blk.new rfl _ _
      have C4 := hide (c4.ext xc)
      have K5 := hide (K4.out.stepX xc)
      have sz4 := K4.out.size
      have gC1 : Wa.heap.size ≤ gC := by rw [hgC.out]; exact sz4
      have DJ : Hid (∀ p, A5 = some p → Wa.heap.size ≤ p.block ∧ p.block < gC) := fun p hp => by
        refine ⟨Own.fromLo O4.out p hp, ?_⟩
        rw [hgC.out]
        rcases OwnI.form O4.out with ⟨h0, -⟩ | ⟨g9, h0, -, h9, -⟩
        · rw [h0] at hp; cases hp
        · rw [h0] at hp; cases hp; exact h9
      have NK : Hid (kI.ok zs) := by show zs.length ≤ _; have := O4.out.len; omega
      have O5 := hide (own_tch O4.out (TchF.of_ext xc (fp := [])) (by simp))
      clear c4 k4 p1' O3 C3 K3 xc O4 K4
      have bl := BV.out.lt
      go_wp2_with (go_at_call 36; rw [hy.out, ← hWc.out, ← hgC.out])
      clear hWc hgC hy
      refine (cu.one_m Wc g _ 12 C4.out (by omega) (by unfold InR; omega)).mono ?_
      rintro e w5 ⟨o, rfl, c5', k5⟩
      have C5 := hide c5'
      have K6 := hide (K5.out.trans k5)
      have B5 := hide (BC.out.tchF k5 (by simp; omega))
      have O6 := hide (own_tch O5.out k5 (fun p hp => by have := DJ.out p hp; simp; omega))
      clear c5' k5 C4 K5 BC O5
      cases o
      · have qV := (BV.out.tchF K6.out (by simp; omega)).cell
        have qX := (BX.out.tchF K6.out (by simp; omega)).cell; have fX := (BX.out.tchF K6.out (by simp; omega)).free
        have RZ := RD.out.tchF K6.out (fun i hi => by simp at hi; omega)
        have XZ := TchF.ext_of X.out K6.out (by omega)
        go_wp2
        refine bodyPost_ret (v := .tuple #[.agg #[.slice A1 n1 e1, .slice A2 n2 e2], .slice A5 k c5, .slice (some ⟨gC, 0, none⟩) 3 3]) (by simp [results, Tryz.results11, go_sem, qX]) rfl ?_
        exact aj_fin (cs := [y, 500, 0]) RZ hlo.1 OK.out O6.out (by omega) NK.out B5.out (by omega) rfl XZ
      · have AMG := hide (cu.among_m (w5.alloc (.cells #[.int .i64 1025, .int .i64 (-25), .int .i64 510] 3)) g _ w5.heap.size 3 [1025, -25, 510] (C5.out.ext (Ext.alloc _ _)) (by omega) (Blk.new rfl _ _) (by have := C5.out.lt; omega) (by decide) (by decide))
        go_wp2_with fail
        refine AMG.out.mono ?_
        rintro e w6 ⟨r6, rfl, -, c6', k60⟩
        have k6 : TchF [g] w5 w6 := (TchF.of_ext (Ext.alloc _ _)).trans k60
        have K7 := hide (K6.out.trans k6)
        have B6 := hide (B5.out.tchF k6 (by simp; omega))
        have O7 := hide (own_tch O6.out k6 (fun p hp => by have := DJ.out p hp; simp; omega))
        have qC := B6.out.cell; have fC := B6.out.free
        have B7 : Hid (Blk (w6.setCell ⟨gC, 1, none⟩ (.int .i64 r6)) gC (([y, r6, 0] : List Int).map (Value.int .i64)).toArray 3) := B6.out.set 1 (.int .i64 r6)
        have K8 := hide (K7.out.step (TchF.put w6 ⟨gC, 1, none⟩ (.int .i64 r6) (fp := [gC]) (by simp)) (fun i hi => .inr (by simp at hi; omega)))
        have O8 := hide (own_tch O7.out (TchF.put w6 ⟨gC, 1, none⟩ (.int .i64 r6) (fp := [gC]) (by simp)) (fun p hp => by have := DJ.out p hp; simp; omega))
        have qV := (BV.out.tchF K8.out (by simp; omega)).cell
        have qX := (BX.out.tchF K8.out (by simp; omega)).cell; have fX := (BX.out.tchF K8.out (by simp; omega)).free
        have RZ := RD.out.tchF K8.out (fun i hi => by simp at hi; omega)
        have XZ := TchF.ext_of X.out K8.out (by omega)
        clear c6' k60 k6 C5 K6 B5 O6 AMG K7 O7 B6
        go_wp2
        refine bodyPost_ret (v := .tuple #[.agg #[.slice A1 n1 e1, .slice A2 n2 e2], .slice A5 k c5, .slice (some ⟨gC, 0, none⟩) 3 3]) (by simp [results, Tryz.results11, go_sem, qX]) rfl ?_
        exact aj_fin (cs := [y, r6, 0]) RZ hlo.1 OK.out O8.out (by omega) NK.out B7.out (by omega) rfl XZ
end Go.Proofs.YtnokilofcdbjhaaGreatDoor
