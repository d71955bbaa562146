/- CallOf. -/
import Derived.Test.YtofmfagdaiphaaaNX
namespace Go.Proofs.Ytofmfagdaiphaaa
open Go.RowKit Go.Sort
set_option linter.unusedVariables false

set_option maxRecDepth 100000 in
set_option maxHeartbeats 2000000 in
theorem s.caHas_m (w : World) (v : Value) (d : ShD) (item name : Int) (h : kSh.rd w v d) (hok : kSh.ok d) :
    Calls Try.prog 49 #[v, .int .i64 item, .int .i64 name] w fun e w' => e = .returned (.bool (sheetB d && hasName d.1 item name)) ∧ Ext w w' := by
  obtain ⟨A, c, A', c', D, e, rfl, h1, h2, h3⟩ := kSh.lr h
  have hok' : kdSh.wt d ≤ 1048576 := hok
  rw [kdSh.wt_eq] at hok'
  have hw1 : wtL kdItem d.1 ≤ 1048576 := by have : kdItS.wt d.1 = wtL kdItem d.1 := rfl; omega
  have k1 := wtL_len kdItem d.1
  have a1 := h1.1; have a2 := h1.2.1
  have HR := hide h
  have H1 := hide h1
  have HW1 := hide hw1
  have hn0 : d.1.length ≤ 1048576 := by omega
  clear h h1 h2 h3 hok' hw1 k1
  obtain ⟨n, hn⟩ : ∃ n, Hid (d.1.length = n) := ⟨_, rfl⟩
  obtain ⟨n', hn'⟩ : ∃ n', Hid (d.2.1.length = n') := ⟨_, rfl⟩
  obtain ⟨m', hm'⟩ : ∃ n', Hid (d.2.2.length = n') := ⟨_, rfl⟩
  rw [hn.out] at a1 hn0
  rw [hn.out, hn'.out, hm'.out] at HR ⊢
  obtain ⟨W0, hW0⟩ : ∃ W0, Hid (W0 = w.alloc (.cells #[.slice A n c, .slice A' n' c', .slice D m' e] 28)) := ⟨_, rfl⟩
  have X : Hid (Ext w W0) := by rw [hW0.out]; exact Ext.alloc w _
  have B0 : Hid (Blk W0 w.heap.size #[.slice A n c, .slice A' n' c', .slice D m' e] 28) := by rw [hW0.out]; exact Blk.new rfl _ _
  obtain ⟨R, hR⟩ : ∃ R, Hid ((sheetB d && hasName d.1 item name) = R) := ⟨_, rfl⟩
  rw [hR.out]
  go_enter Try.func49, Try.ntmps49
  go_wp2_with fail
  rw [← hW0.out]
  clear hW0
  refine (s.caGood_m _ _ d (kSh.rd_ext HR.out X.out) hok).mono ?_
  rintro e1 w1 ⟨rfl, x1⟩
  replace X := hide (X.out.trans x1)
  replace B0 := hide (B0.out.ext x1)
  clear x1
  have cB := B0.out.cell
  cases hs : sheetB d
  · have HF : Hid (R = false) := by show _ = _; rw [← hR.out, hs]; rfl
    clear hs
    go_wp2
    go_ret
    exact ⟨ret_bool HF.out.symm, X.out⟩
  · have SR : Hid (R = hasName d.1 item name) := by show _ = _; rw [← hR.out, hs]; simp
    clear hs hR
    have wn : IntKind.i64.wrap ((n : Int) - 1) = (n : Int) - 1 := IntWalk.i64_in _ (by omega)
    cases hi : inB 0 ((n : Int) - 1) item
    · have HF : Hid (R = false) := by show _ = _; rw [SR.out, hasName, hn.out, hi]; rfl
      go_wp2_with (go_at_call 50; refine (s.l1In_any _ _ _ _).mono ?_; rintro e1 w' ⟨rfl, rfl⟩)
      go_ret
      exact ⟨ret_bool HF.out.symm, X.out⟩
    · obtain ⟨ix, rfl, hin⟩ := inB_nat hi
      obtain ⟨x, hxk⟩ : ∃ x, Hid (d.1[ix]? = some x) := ⟨_, List.getElem?_eq_getElem (by rw [hn.out]; exact hin)⟩
      obtain ⟨b, off, A1, c1, A2, c2, rfl, hb, q0, q1, q2, r1, r2⟩ := (H1.out.ext X.out (Nat.le_refl _)).item ix x hxk.out
      have hx1 := (kdItem.wt_le (Nat.le_trans (wtL_at kdItem d.1 ix x hxk.out) HW1.out)).1
      have NM := hide (namesAt_some hxk.out)
      have y1 := r1.1; have y2 := r1.2.1
      have HF : Hid (R = inB 0 ((x.1.length : Int) - 1) name) := by show _ = _; rw [SR.out, hasName, hn.out, hi, Int.toNat_natCast, NM.out]; simp
      clear q1 q2 r1 r2 NM
      generalize x.1.length = m at *
      have wm : IntKind.i64.wrap ((m : Int) - 1) = (m : Int) - 1 := IntWalk.i64_in _ (by omega)
      go_wp2_with (go_at_call 50; refine (s.l1In_any _ _ _ _).mono ?_; rintro e1 w' ⟨rfl, rfl⟩)
      go_ret
      exact ⟨ret_bool HF.out.symm, X.out⟩

set_option maxRecDepth 100000 in
set_option maxHeartbeats 2000000 in
theorem s.CallOf_law (w : World) (v : Value) (d : ShD) (item name : Int) (h : kSh.rd w v d) (hok : kSh.ok d) (hy1 : InR item) (hy2 : InR name) :
    Calls Try.prog 32 #[v, .int .i64 item, .int .i64 name] w fun e w' => e = .returned (.tuple #[.int .i64 (callOfF d item name).1, .bool (callOfF d item name).2]) ∧ Ext w w' := by
  obtain ⟨A, c, A', c', D, e, rfl, h1, h2, h3⟩ := kSh.lr h
  have hok' : kdSh.wt d ≤ 1048576 := hok
  rw [kdSh.wt_eq] at hok'
  have hw1 : wtL kdItem d.1 ≤ 1048576 := by have : kdItS.wt d.1 = wtL kdItem d.1 := rfl; omega
  have k1 := wtL_len kdItem d.1
  have a1 := h1.1; have a2 := h1.2.1
  have HR := hide h
  have H1 := hide h1
  have HW1 := hide hw1
  have hn0 : d.1.length ≤ 1048576 := by omega
  clear h h1 h2 h3 hok' hw1 k1
  obtain ⟨n, hn⟩ : ∃ n, Hid (d.1.length = n) := ⟨_, rfl⟩
  obtain ⟨n', hn'⟩ : ∃ n', Hid (d.2.1.length = n') := ⟨_, rfl⟩
  obtain ⟨m', hm'⟩ : ∃ n', Hid (d.2.2.length = n') := ⟨_, rfl⟩
  rw [hn.out] at a1 hn0
  rw [hn.out, hn'.out, hm'.out] at HR ⊢
  obtain ⟨W0, hW0⟩ : ∃ W0, Hid (W0 = w.alloc (.cells #[.slice A n c, .slice A' n' c', .slice D m' e] 28)) := ⟨_, rfl⟩
  have X : Hid (Ext w W0) := by rw [hW0.out]; exact Ext.alloc w _
  have B0 : Hid (Blk W0 w.heap.size #[.slice A n c, .slice A' n' c', .slice D m' e] 28) := by rw [hW0.out]; exact Blk.new rfl _ _
  obtain ⟨F, hF⟩ : ∃ F, Hid (callOfF d item name = F) := ⟨_, rfl⟩
  rw [hF.out]
  go_enter Try.func32, Try.ntmps32
  go_wp2_with fail
  rw [← hW0.out]
  clear hW0
  refine (s.caHas_m _ _ d item name (kSh.rd_ext HR.out X.out) hok).mono ?_
  rintro e1 w1 ⟨rfl, x1⟩
  replace X := hide (X.out.trans x1)
  replace B0 := hide (B0.out.ext x1)
  clear x1
  have cB := B0.out.cell
  cases hsh : (sheetB d && hasName d.1 item name)
  · have HF : Hid (F = (0, false)) := by show _ = _; rw [← hF.out, callOfF, hsh]; rfl
    clear hsh
    go_wp2
    go_ret2
    rw [HF.out]
    exact ⟨rfl, X.out⟩
  · obtain ⟨hs, hh⟩ := Bool.and_eq_true_iff.1 hsh
    clear hsh
    obtain ⟨ix, kx, rfl, rfl, hi, hk⟩ := hasName_ok hh
    have HS := hide hs
    have HH := hide hh
    have HI := hide hi
    have HK := hide hk
    clear hs hh hi hk
    go_wp2_with fail
    refine (s.caCall_m _ _ d ix kx (kSh.rd_ext HR.out X.out) hok HS.out HI.out HK.out).mono ?_
    rintro e1 w2 ⟨rfl, x2⟩
    replace X := hide (X.out.trans x2)
    replace B0 := hide (B0.out.ext x2)
    clear x2 cB
    have cB := B0.out.cell
    by_cases hc : 0 ≤ callF d ix kx
    · have HF : Hid (F = (callF d ix kx, true)) := by show _ = _; rw [← hF.out]; simp [callOfF, HS.out, HH.out, hc]
      have CL := hide (fun (w3 : World) (x3 : Ext w w3) => s.caCall_m w3 _ d ix kx (kSh.rd_ext HR.out x3) hok HS.out HI.out HK.out)
      generalize callF d ix kx = cl at *
      go_wp2_with fail
      refine (CL.out _ X.out).mono ?_
      rintro e1 w3 ⟨rfl, x3⟩
      replace X := hide (X.out.trans x3)
      clear x3
      go_wp2
      go_ret2
      rw [HF.out]
      exact ⟨rfl, X.out⟩
    · have HF : Hid (F = (0, false)) := by show _ = _; rw [← hF.out]; simp [callOfF, hc]
      generalize callF d ix kx = cl at *
      go_wp2
      go_ret2
      rw [HF.out]
      exact ⟨rfl, X.out⟩

set_option maxRecDepth 100000 in
set_option maxHeartbeats 2000000 in
theorem i.CallOf_law (w : World) (v : Value) (d : ShD) (item name : Int) (h : kSh.rd w v d) (hok : kSh.ok d) (hy1 : InR item) (hy2 : InR name) :
    Calls Try.prog 10 #[v, .int .i64 item, .int .i64 name] w fun e w' => e = .returned (.tuple #[.int .i64 (callOfF d item name).1, .bool (callOfF d item name).2]) ∧ Ext w w' := by
  obtain ⟨A, c, A', c', D, e, rfl, h1, h2, h3⟩ := kSh.lr h
  have hok' : kdSh.wt d ≤ 1048576 := hok
  rw [kdSh.wt_eq] at hok'
  have hw1 : wtL kdItem d.1 ≤ 1048576 := by have : kdItS.wt d.1 = wtL kdItem d.1 := rfl; omega
  have k1 := wtL_len kdItem d.1
  have a1 := h1.1; have a2 := h1.2.1
  have HR := hide h
  have H1 := hide h1
  have HW1 := hide hw1
  have hn0 : d.1.length ≤ 1048576 := by omega
  clear h h1 h2 h3 hok' hw1 k1
  obtain ⟨n, hn⟩ : ∃ n, Hid (d.1.length = n) := ⟨_, rfl⟩
  obtain ⟨n', hn'⟩ : ∃ n', Hid (d.2.1.length = n') := ⟨_, rfl⟩
  obtain ⟨m', hm'⟩ : ∃ n', Hid (d.2.2.length = n') := ⟨_, rfl⟩
  rw [hn.out] at a1 hn0
  rw [hn.out, hn'.out, hm'.out] at HR ⊢
  obtain ⟨W0, hW0⟩ : ∃ W0, Hid (W0 = w.alloc (.cells #[.slice A n c, .slice A' n' c', .slice D m' e] 28)) := ⟨_, rfl⟩
  have X : Hid (Ext w W0) := by rw [hW0.out]; exact Ext.alloc w _
  have B0 : Hid (Blk W0 w.heap.size #[.slice A n c, .slice A' n' c', .slice D m' e] 28) := by rw [hW0.out]; exact Blk.new rfl _ _
  obtain ⟨F, hF⟩ : ∃ F, Hid (callOfF d item name = F) := ⟨_, rfl⟩
  rw [hF.out]
  go_enter Try.func10, Try.ntmps10
  go_wp2_with fail
  rw [← hW0.out]
  clear hW0
  refine (i.IsSheet_m _ _ d (kSh.rd_ext HR.out X.out) hok).mono ?_
  rintro e1 w1 ⟨rfl, x1⟩
  replace X := hide (X.out.trans x1)
  replace B0 := hide (B0.out.ext x1)
  clear x1
  have cB := B0.out.cell
  cases hs : sheetB d
  · have HF : Hid (F = (0, false)) := by show _ = _; rw [← hF.out]; simp [callOfF, hs]
    clear hs
    go_wp2
    go_ret2
    rw [HF.out]
    exact ⟨rfl, X.out⟩
  have HN9 := hide (i.hasNameAt_any w1 A c w.heap.size d.1 item name (H1.out.ext X.out (Nat.le_refl _)) HW1.out)
  rw [hn.out] at HN9
  cases hh : hasName d.1 item name
  · have HF : Hid (F = (0, false)) := by show _ = _; rw [← hF.out]; simp [callOfF, hh]
    rw [hh] at HN9
    clear hs hh
    go_wp2_with (go_at_call 43; refine HN9.out.mono ?_; rintro e1 w' ⟨rfl, rfl⟩)
    go_ret2
    rw [HF.out]
    exact ⟨rfl, X.out⟩
  · rw [hh] at HN9
    obtain ⟨ix, kx, rfl, rfl, hi, hk⟩ := hasName_ok hh
    have HS := hide hs
    have HH := hide hh
    have HI := hide hi
    have HK := hide hk
    clear hs hh hi hk
    go_wp2_with (go_at_call 43; refine HN9.out.mono ?_; rintro e1 w' ⟨rfl, rfl⟩)
    refine (i.callOf_m _ _ d ix kx (kSh.rd_ext HR.out X.out) hok HS.out HI.out HK.out).mono ?_
    rintro e1 w2 ⟨rfl, x2⟩
    replace X := hide (X.out.trans x2)
    replace B0 := hide (B0.out.ext x2)
    clear x2 cB
    have cB := B0.out.cell
    by_cases hc : 0 ≤ callF d ix kx
    · have HF : Hid (F = (callF d ix kx, true)) := by show _ = _; rw [← hF.out]; simp [callOfF, HS.out, HH.out, hc]
      have CL := hide (fun (w3 : World) (x3 : Ext w w3) => i.callOf_m w3 _ d ix kx (kSh.rd_ext HR.out x3) hok HS.out HI.out HK.out)
      generalize callF d ix kx = cl at *
      go_wp2_with fail
      refine (CL.out _ X.out).mono ?_
      rintro e1 w3 ⟨rfl, x3⟩
      replace X := hide (X.out.trans x3)
      clear x3
      go_wp2
      go_ret2
      rw [HF.out]
      exact ⟨rfl, X.out⟩
    · have HF : Hid (F = (0, false)) := by show _ = _; rw [← hF.out]; simp [callOfF, hc]
      generalize callF d ix kx = cl at *
      go_wp2
      go_ret2
      rw [HF.out]
      exact ⟨rfl, X.out⟩
end Go.Proofs.Ytofmfagdaiphaaa
