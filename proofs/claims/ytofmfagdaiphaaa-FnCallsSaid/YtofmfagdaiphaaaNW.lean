/- Sheets that are valid. -/
import Derived.Test.YtofmfagdaiphaaaNU
namespace Go.Proofs.Ytofmfagdaiphaaa
open Go.RowKit Go.Sort
set_option linter.unusedVariables false

theorem kdLLL_row {vs : List (List (List Int))} (h : wtL kdLL vs ≤ 1048576) {k : Nat} {v : List (List Int)} (hv : vs[k]? = some v) : wtL kdL v ≤ 1048576 := by
  have h1 := wtL_at kdLL vs k v hv
  have h2 : kdLL.wt v = wtL kdL v := rfl
  omega

set_option maxRecDepth 100000 in
set_option maxHeartbeats 4000000 in
theorem s.caGood_m (w : World) (v : Value) (d : ShD) (h : kSh.rd w v d) (hok : kSh.ok d) :
    Calls Try.prog 40 #[v] w fun e w' => e = .returned (.bool (sheetB d)) ∧ Ext w w' := by
  obtain ⟨A, c, A', c', D, e, rfl, h1, h2, h3⟩ := kSh.lr h
  have hok : kdSh.wt d ≤ 1048576 := hok
  rw [kdSh.wt_eq] at hok
  have hw1 : wtL kdItem d.1 ≤ 1048576 := by have : kdItS.wt d.1 = wtL kdItem d.1 := rfl; omega
  have hw2 : wtL kdLL d.2.1 ≤ 1048576 := by have : kdLLL.wt d.2.1 = wtL kdLL d.2.1 := rfl; omega
  have hw3 : wtL kdRv d.2.2 ≤ 1048576 := by have : kdRvS.wt d.2.2 = wtL kdRv d.2.2 := rfl; omega
  have k1 := wtL_len kdItem d.1; have k2 := wtL_len kdLL d.2.1; have k3 := wtL_len kdRv d.2.2
  have a1 := h1.1; have a2 := h1.2.1; have a3 := h2.1; have a4 := h2.2.1; have a5 := h3.1; have a6 := h3.2.1
  have H1 := hide h1
  have H2 := hide h2
  have H3 := hide h3
  clear h h1 h2 h3 hok
  obtain ⟨R, hR⟩ : ∃ R, Hid (sheetB d = R) := ⟨_, rfl⟩
  rw [hR.out]
  obtain ⟨n, hn⟩ : ∃ n, Hid (d.1.length = n) := ⟨_, rfl⟩
  obtain ⟨n', hn'⟩ : ∃ n', Hid (d.2.1.length = n') := ⟨_, rfl⟩
  obtain ⟨m', hm'⟩ : ∃ n', Hid (d.2.2.length = n') := ⟨_, rfl⟩
  have SE : Hid (R = (cleanB d.1 && ((n' : Int) == 3) && decide ((m' : Int) ≤ 20) && d.2.1.all (votesB d.1) && d.2.2.all (reviewB d.1))) := by show _ = _; rw [← hR.out, sheetB, hn'.out, hm'.out]
  clear hR
  rw [hn.out] at k1 a1 ⊢
  rw [hn'.out] at k2 a3 ⊢
  rw [hm'.out] at k3 a5 ⊢
  have n1 : n ≤ 1048576 := by omega
  have n2 : n' ≤ 1048576 := by omega
  have n3 : m' ≤ 1048576 := by omega
  have HW1 := hide hw1
  have HW2 := hide hw2
  clear hw1 hw2 hw3 k1 k2 k3
  obtain ⟨W0, hW0⟩ : ∃ W0, Hid (W0 = w.alloc (.cells #[.slice A n c, .slice A' n' c', .slice D m' e] 28)) := ⟨_, rfl⟩
  have X : Hid (Ext w W0) := by rw [hW0.out]; exact Ext.alloc w _
  have B0 : Hid (Blk W0 w.heap.size #[.slice A n c, .slice A' n' c', .slice D m' e] 28) := by rw [hW0.out]; exact Blk.new rfl _ _
  go_enter Try.func40, Try.ntmps40
  go_wp2_with fail
  rw [← hW0.out]
  clear hW0
  have hcl := s.caClean_any W0 A c w.heap.size d.1 (H1.out.ext X.out (Nat.le_refl _)) X.out.size HW1.out
  rw [hn.out] at hcl
  refine hcl.mono ?_
  rintro e1 w1 ⟨rfl, x1⟩
  replace X := hide (X.out.trans x1)
  replace B0 := hide (B0.out.ext x1)
  clear x1 hcl
  have cB := B0.out.cell
  cases hc : cleanB d.1
  · have HF : Hid (R = false) := by show _ = _; rw [SE.out, hc]; rfl
    clear hc
    go_wp2
    go_ret
    exact ⟨ret_bool HF.out.symm, X.out⟩
  rw [hc] at SE
  clear hc
  by_cases hv : n' = 3
  · by_cases hr : m' ≤ 20
    · have b1 : ((n' : Int) != 3) = false := by simp [hv]
      have b2 : ¬ ((20 : Int) < m') := by omega
      replace SE : Hid (R = (d.2.1.all (votesB d.1) && d.2.2.all (reviewB d.1))) := by show _ = _; rw [SE.out, show ((n' : Int) == 3) = true from by simp [hv], show decide ((m' : Int) ≤ 20) = true from by simp; omega]; simp
      have hv3 : n' ≤ 3 ∧ 3 ≤ n' := by omega
      clear hv
      go_wp2
      clear cB
      go_loopw [26] (fun i wr => ∃ (k : Nat), k ≤ n' ∧ i = .int .i64 k ∧ (d.2.1.take k).all (votesB d.1) = true ∧ Blk wr w.heap.size #[.slice A n c, .slice A' n' c', .slice D m' e] 28 ∧ Ext w wr) (fun i _ => n' - (intOf i).toNat)
      case atStart => exact ⟨0, Nat.zero_le _, rfl, rfl, B0.out, X.out⟩
      case round =>
        obtain ⟨k, hk, rfl, hall, hb0, hx⟩ := hrel
        clear B0 X
        have HA := hide hall
        have B0 := hide hb0
        have X := hide hx
        clear hall hb0 hx
        have cB := B0.out.cell
        by_cases hlt : k < n'
        · obtain ⟨x, hxk⟩ : ∃ x, Hid (d.2.1[k]? = some x) := ⟨_, List.getElem?_eq_getElem (by rw [hn'.out]; exact hlt)⟩
          obtain ⟨b, off, Ak, ck, rfl, hb, hck, hrk⟩ := (H2.out.ext X.out (Nat.le_refl _)).voteS k x hxk.out
          have hwx := kdLLL_row HW2.out hxk.out
          have VT := hide (s.caVotes_any wr A Ak c ck w.heap.size d.1 x (H1.out.ext X.out (Nat.le_refl _)) hrk X.out.size HW1.out hwx)
          rw [hn.out] at VT
          clear hrk hwx
          go_wp2_with fail
          refine VT.out.mono ?_
          rintro e1 w2 ⟨rfl, x2⟩
          replace X := hide (X.out.trans x2)
          replace B0 := hide (B0.out.ext x2)
          clear x2 cB
          cases hb2 : votesB d.1 x
          · have HF : Hid (R = false) := by show _ = _; rw [SE.out, allL_stop hxk.out hb2]; rfl
            clear hb2
            go_wp2
            go_ret
            exact ⟨ret_bool HF.out.symm, X.out⟩
          · have HN := hide hb2
            clear hb2
            go_wp2
            go_roundw
            case rel => exact ⟨k + 1, by omega, by go_num, allL_step hxk.out HA.out HN.out, B0.out, X.out⟩
            case measure => simp [intOf]; omega
        · have ek : n' = k := by omega
          have HV : Hid (d.2.1.all (votesB d.1) = true) := allL_end (by rw [hn'.out]; omega) HA.out
          replace SE : Hid (R = d.2.2.all (reviewB d.1)) := by show _ = _; rw [SE.out, HV.out]; simp
          clear HA HV
          subst ek
          go_wp2
          clear cB
          go_loopw [39] (fun i wr => ∃ (k : Nat), k ≤ m' ∧ i = .int .i64 k ∧ (d.2.2.take k).all (reviewB d.1) = true ∧ Blk wr w.heap.size #[.slice A n c, .slice A' n' c', .slice D m' e] 28 ∧ Ext w wr) (fun i _ => m' - (intOf i).toNat)
          case atStart => exact ⟨0, Nat.zero_le _, rfl, rfl, B0.out, X.out⟩
          case round =>
            obtain ⟨k, hk, rfl, hall, hb0, hx⟩ := hrel
            clear B0 X
            have HA := hide hall
            have B0 := hide hb0
            have X := hide hx
            clear hall hb0 hx
            by_cases hlt : k < m'
            · obtain ⟨x, hxk⟩ : ∃ x, Hid (d.2.2[k]? = some x) := ⟨_, List.getElem?_eq_getElem (by rw [hm'.out]; exact hlt)⟩
              obtain ⟨b, off, rfl, hb, q0, q1, q2⟩ := (H3.out.ext X.out (Nat.le_refl _)).review k x hxk.out
              obtain ⟨W1, hW1⟩ : ∃ W1, Hid (W1 = wr.alloc (.cells #[.int .i64 x.1, .int .i64 x.2.1, .int .i64 x.2.2] 30)) := ⟨_, rfl⟩
              have x1 : Ext wr W1 := by rw [hW1.out]; exact Ext.alloc _ _
              have B1 : Hid (Blk W1 wr.heap.size #[.int .i64 x.1, .int .i64 x.2.1, .int .i64 x.2.2] 30) := by rw [hW1.out]; exact Blk.new rfl _ _
              have cBn := (B0.out.alloc (.cells #[.int .i64 x.1, .int .i64 x.2.1, .int .i64 x.2.2] 30)).cell
              replace X := hide (X.out.trans x1)
              replace B0 := hide (B0.out.ext x1)
              clear x1
              have RV := hide (s.caReview_any W1 A c w.heap.size d.1 x (H1.out.ext X.out (Nat.le_refl _)) X.out.size HW1.out)
              rw [hn.out] at RV
              go_wp2_with fail
              rw [← hW1.out]
              clear hW1 cBn B1
              refine RV.out.mono ?_
              rintro e1 w2 ⟨rfl, x2⟩
              replace X := hide (X.out.trans x2)
              replace B0 := hide (B0.out.ext x2)
              clear x2
              cases hb2 : reviewB d.1 x
              · have HF : Hid (R = false) := by show _ = _; rw [SE.out, allL_stop hxk.out hb2]
                clear hb2
                go_wp2
                go_ret
                exact ⟨ret_bool HF.out.symm, X.out⟩
              · have HN := hide hb2
                clear hb2
                go_wp2
                go_roundw
                case rel => exact ⟨k + 1, by omega, by go_num, allL_step hxk.out HA.out HN.out, B0.out, X.out⟩
                case measure => simp [intOf]; omega
            · have HV : Hid (d.2.2.all (reviewB d.1) = true) := allL_end (by rw [hm'.out]; omega) HA.out
              have HF : Hid (R = true) := by show _ = _; rw [SE.out, HV.out]
              go_wp2
              go_ret
              exact ⟨ret_bool HF.out.symm, X.out⟩
    · have b1 : ((n' : Int) != 3) = false := by simp [hv]
      have b2 : (20 : Int) < m' := by omega
      have HF : Hid (R = false) := by show _ = _; rw [SE.out, show decide ((m' : Int) ≤ 20) = false from by simp; omega]; simp
      clear hv hr
      go_wp2
      go_ret
      exact ⟨ret_bool HF.out.symm, X.out⟩
  · have b1 : ((n' : Int) != 3) = true := by rw [bne_iff_ne]; intro h8; exact hv (by omega)
    have HF : Hid (R = false) := by show _ = _; rw [SE.out, show ((n' : Int) == 3) = false from by rw [beq_eq_false_iff_ne]; intro h8; exact hv (by omega)]; simp
    clear hv
    go_wp2
    go_ret
    exact ⟨ret_bool HF.out.symm, X.out⟩

set_option maxRecDepth 100000 in
set_option maxHeartbeats 4000000 in
theorem i.IsSheet_m (w : World) (v : Value) (d : ShD) (h : kSh.rd w v d) (hok : kSh.ok d) :
    Calls Try.prog 11 #[v] w fun e w' => e = .returned (.bool (sheetB d)) ∧ Ext w w' := by
  obtain ⟨A, c, A', c', D, e, rfl, h1, h2, h3⟩ := kSh.lr h
  have hok : kdSh.wt d ≤ 1048576 := hok
  rw [kdSh.wt_eq] at hok
  have hw1 : wtL kdItem d.1 ≤ 1048576 := by have : kdItS.wt d.1 = wtL kdItem d.1 := rfl; omega
  have hw2 : wtL kdLL d.2.1 ≤ 1048576 := by have : kdLLL.wt d.2.1 = wtL kdLL d.2.1 := rfl; omega
  have hw3 : wtL kdRv d.2.2 ≤ 1048576 := by have : kdRvS.wt d.2.2 = wtL kdRv d.2.2 := rfl; omega
  have k1 := wtL_len kdItem d.1; have k2 := wtL_len kdLL d.2.1; have k3 := wtL_len kdRv d.2.2
  have a1 := h1.1; have a2 := h1.2.1; have a3 := h2.1; have a4 := h2.2.1; have a5 := h3.1; have a6 := h3.2.1
  have H1 := hide h1
  have H2 := hide h2
  have H3 := hide h3
  clear h h1 h2 h3 hok
  obtain ⟨R, hR⟩ : ∃ R, Hid (sheetB d = R) := ⟨_, rfl⟩
  rw [hR.out]
  obtain ⟨n, hn⟩ : ∃ n, Hid (d.1.length = n) := ⟨_, rfl⟩
  obtain ⟨n', hn'⟩ : ∃ n', Hid (d.2.1.length = n') := ⟨_, rfl⟩
  obtain ⟨m', hm'⟩ : ∃ n', Hid (d.2.2.length = n') := ⟨_, rfl⟩
  have SE : Hid (R = (cleanB d.1 && ((n' : Int) == 3) && decide ((m' : Int) ≤ 20) && d.2.1.all (votesB d.1) && d.2.2.all (reviewB d.1))) := by show _ = _; rw [← hR.out, sheetB, hn'.out, hm'.out]
  clear hR
  rw [hn.out] at k1 a1 ⊢
  rw [hn'.out] at k2 a3 ⊢
  rw [hm'.out] at k3 a5 ⊢
  have n1 : n ≤ 1048576 := by omega
  have n2 : n' ≤ 1048576 := by omega
  have n3 : m' ≤ 1048576 := by omega
  have HW1 := hide hw1
  have HW2 := hide hw2
  clear hw1 hw2 hw3 k1 k2 k3
  obtain ⟨W0, hW0⟩ : ∃ W0, Hid (W0 = w.alloc (.cells #[.slice A n c, .slice A' n' c', .slice D m' e] 28)) := ⟨_, rfl⟩
  have X : Hid (Ext w W0) := by rw [hW0.out]; exact Ext.alloc w _
  have B0 : Hid (Blk W0 w.heap.size #[.slice A n c, .slice A' n' c', .slice D m' e] 28) := by rw [hW0.out]; exact Blk.new rfl _ _
  go_enter Try.func11, Try.ntmps11
  go_wp2_with fail
  rw [← hW0.out]
  clear hW0
  have hcl := i.isUnmarked_any W0 A c w.heap.size d.1 (H1.out.ext X.out (Nat.le_refl _)) X.out.size HW1.out
  rw [hn.out] at hcl
  refine hcl.mono ?_
  rintro e1 w1 ⟨rfl, x1⟩
  replace X := hide (X.out.trans x1)
  replace B0 := hide (B0.out.ext x1)
  clear x1 hcl
  have cB := B0.out.cell
  cases hc : cleanB d.1
  · have HF : Hid (R = false) := by show _ = _; rw [SE.out, hc]; rfl
    clear hc
    go_wp2
    go_ret
    exact ⟨ret_bool HF.out.symm, X.out⟩
  rw [hc] at SE
  clear hc
  by_cases hv : n' = 3
  · by_cases hr : m' ≤ 20
    · have b1 : ((n' : Int) != 3) = false := by simp [hv]
      have b2 : ¬ ((20 : Int) < m') := by omega
      replace SE : Hid (R = (d.2.1.all (votesB d.1) && d.2.2.all (reviewB d.1))) := by show _ = _; rw [SE.out, show ((n' : Int) == 3) = true from by simp [hv], show decide ((m' : Int) ≤ 20) = true from by simp; omega]; simp
      have hv3 : n' ≤ 3 ∧ 3 ≤ n' := by omega
      clear hv
      go_wp2
      clear cB
      go_loopw [28] (fun i wr => ∃ (k : Nat), k ≤ n' ∧ i = .int .i64 k ∧ (d.2.1.take k).all (votesB d.1) = true ∧ Blk wr w.heap.size #[.slice A n c, .slice A' n' c', .slice D m' e] 28 ∧ Ext w wr) (fun i _ => n' - (intOf i).toNat)
      case atStart => exact ⟨0, Nat.zero_le _, rfl, rfl, B0.out, X.out⟩
      case round =>
        obtain ⟨k, hk, rfl, hall, hb0, hx⟩ := hrel
        clear B0 X
        have HA := hide hall
        have B0 := hide hb0
        have X := hide hx
        clear hall hb0 hx
        have cB := B0.out.cell
        by_cases hlt : k < n'
        · obtain ⟨x, hxk⟩ : ∃ x, Hid (d.2.1[k]? = some x) := ⟨_, List.getElem?_eq_getElem (by rw [hn'.out]; exact hlt)⟩
          obtain ⟨b, off, Ak, ck, rfl, hb, hck, hrk⟩ := (H2.out.ext X.out (Nat.le_refl _)).voteS k x hxk.out
          have hwx := kdLLL_row HW2.out hxk.out
          have k9 := wtL_len kdL x
          have nx : x.length ≤ 1048576 := by omega
          have z1 := hrk.1; have z2 := hrk.2.1
          have HK := hide hrk
          have HWX := hide hwx
          clear hrk hwx k9
          obtain ⟨q, hq⟩ : ∃ q, Hid (x.length = q) := ⟨_, rfl⟩
          rw [hq.out] at hck z1 nx
          by_cases hne : q = n
          · subst hne
            have b3 : ((q : Int) != (q : Int)) = false := by simp
            have HSTOP : Hid (∀ j, j < q → rowB d.1 x j = false → R = false) := fun j hj h8 => by rw [SE.out, allL_stop hxk.out (by rw [votesB, hn.out, range_stop hj h8]; simp)]; rfl
            have HEND : Hid ((List.range q).all (rowB d.1 x) = true → votesB d.1 x = true) := fun h8 => by rw [votesB, hn.out, hq.out, h8]; simp
            go_wp2
            go_loopw [40] (fun i wq => ∃ (j : Nat), j ≤ q ∧ i = .int .i64 j ∧ (List.range j).all (rowB d.1 x) = true ∧ wq = wr) (fun i _ => q - (intOf i).toNat)
            case atStart => exact ⟨0, Nat.zero_le _, rfl, rfl, rfl⟩
            case round =>
              obtain ⟨j, hj, rfl, hallj, rfl⟩ := hrel
              have HJ := hide hallj
              clear hallj
              by_cases hltj : j < q
              · obtain ⟨y, hyk⟩ : ∃ y, Hid (d.1[j]? = some y) := ⟨_, List.getElem?_eq_getElem (by rw [hn.out]; exact hltj)⟩
                obtain ⟨r, hrj⟩ : ∃ r, Hid (x[j]? = some r) := ⟨_, List.getElem?_eq_getElem (by rw [hq.out]; exact hltj)⟩
                obtain ⟨b5, off5, A1, c1, A2, c2, rfl, hb5, q0, q1, q2, r1, r2⟩ := (H1.out.ext X.out (Nat.le_refl _)).item j y hyk.out
                obtain ⟨b6, off6, A3, c3, rfl, hb6, q3, r3⟩ := HK.out.rowS j r hrj.out
                have hr1 := wtLL_row HWX.out hrj.out
                have y1 := r1.1; have y2 := r1.2.1; have y3 := r3.1; have y4 := r3.2.1
                have hy1 := (kdItem.wt_le (Nat.le_trans (wtL_at kdItem d.1 j y hyk.out) HW1.out)).1
                have RB := hide (rowB_at hyk.out hrj.out)
                have AL := hide (i.allWithin_any A3 r.length c3 w.heap.size r (-1) 3 _ r3.sl hr1)
                clear q1 q2 r1 r2 r3
                generalize y.1.length = m at *
                generalize r.length = m2 at *
                obtain ⟨av, hav⟩ : ∃ av, Hid (r.all (inB (-1) 3) = av) := ⟨_, rfl⟩
                rw [hav.out] at AL RB
                by_cases he : m2 = m
                · have b4 : ((m2 : Int) != (m : Int)) = false := by simp [he]
                  have HE : Hid (rowB d.1 x j = av) := by show _ = _; rw [RB.out]; simp [he]
                  clear he RB
                  cases av
                  · go_wp2_with (go_at_call 46; refine AL.out.mono ?_; rintro e1 w' ⟨rfl, rfl⟩)
                    go_ret
                    exact ⟨ret_bool (HSTOP.out j hltj HE.out).symm, X.out⟩
                  · go_wp2_with (go_at_call 46; refine AL.out.mono ?_; rintro e1 w' ⟨rfl, rfl⟩)
                    go_roundw
                    case rel => exact ⟨j + 1, by omega, by go_num, range_step HJ.out HE.out, trivial⟩
                    case measure => simp [intOf]; omega
                · have b4 : ((m2 : Int) != (m : Int)) = true := by rw [bne_iff_ne]; intro h8; exact he (by omega)
                  have HE : Hid (rowB d.1 x j = false) := by show _ = _; rw [RB.out, show ((m2 : Int) == (m : Int)) = false from by rw [beq_eq_false_iff_ne]; intro h8; exact he (by omega)]; rfl
                  clear he RB
                  go_wp2
                  go_ret
                  exact ⟨ret_bool (HSTOP.out j hltj HE.out).symm, X.out⟩
              · have ej : q = j := by omega
                subst ej
                have HN := hide (HEND.out HJ.out)
                go_wp2
                go_roundw
                case rel => exact ⟨k + 1, by omega, by go_num, allL_step hxk.out HA.out HN.out, B0.out, X.out⟩
                case measure => simp [intOf]; omega
          · have b3 : ((q : Int) != (n : Int)) = true := by rw [bne_iff_ne]; intro h8; exact hne (by omega)
            have HF : Hid (R = false) := by show _ = _; rw [SE.out, allL_stop hxk.out (by rw [votesB, hn.out, hq.out, show ((q : Int) == (n : Int)) = false from by rw [beq_eq_false_iff_ne]; intro h8; exact hne (by omega)]; rfl)]; rfl
            clear hne
            go_wp2
            go_ret
            exact ⟨ret_bool HF.out.symm, X.out⟩
        · have ek : n' = k := by omega
          have HV : Hid (d.2.1.all (votesB d.1) = true) := allL_end (by rw [hn'.out]; omega) HA.out
          replace SE : Hid (R = d.2.2.all (reviewB d.1)) := by show _ = _; rw [SE.out, HV.out]; simp
          clear HA HV
          subst ek
          go_wp2
          clear cB
          go_loopw [65] (fun i wr => ∃ (k : Nat), k ≤ m' ∧ i = .int .i64 k ∧ (d.2.2.take k).all (reviewB d.1) = true ∧ Blk wr w.heap.size #[.slice A n c, .slice A' n' c', .slice D m' e] 28 ∧ Ext w wr) (fun i _ => m' - (intOf i).toNat)
          case atStart => exact ⟨0, Nat.zero_le _, rfl, rfl, B0.out, X.out⟩
          case round =>
            obtain ⟨k, hk, rfl, hall, hb0, hx⟩ := hrel
            clear B0 X
            have HA := hide hall
            have B0 := hide hb0
            have X := hide hx
            clear hall hb0 hx
            by_cases hlt : k < m'
            · obtain ⟨x, hxk⟩ : ∃ x, Hid (d.2.2[k]? = some x) := ⟨_, List.getElem?_eq_getElem (by rw [hm'.out]; exact hlt)⟩
              obtain ⟨b, off, rfl, hb, q0, q1, q2⟩ := (H3.out.ext X.out (Nat.le_refl _)).review k x hxk.out
              obtain ⟨W1, hW1⟩ : ∃ W1, Hid (W1 = wr.alloc (.cells #[.int .i64 x.1, .int .i64 x.2.1, .int .i64 x.2.2] 30)) := ⟨_, rfl⟩
              have x1 : Ext wr W1 := by rw [hW1.out]; exact Ext.alloc _ _
              have B1 : Hid (Blk W1 wr.heap.size #[.int .i64 x.1, .int .i64 x.2.1, .int .i64 x.2.2] 30) := by rw [hW1.out]; exact Blk.new rfl _ _
              have cBn := (B0.out.alloc (.cells #[.int .i64 x.1, .int .i64 x.2.1, .int .i64 x.2.2] 30)).cell
              replace X := hide (X.out.trans x1)
              replace B0 := hide (B0.out.ext x1)
              clear x1
              have HN9 := hide (i.hasNameAt_any W1 A c w.heap.size d.1 x.1 x.2.1 (H1.out.ext X.out (Nat.le_refl _)) HW1.out)
              rw [hn.out] at HN9
              have MK := hide (i.isMark_any x.2.2 W1)
              have e9 : reviewB d.1 x = (hasName d.1 x.1 x.2.1 && inB 0 3 x.2.2) := rfl
              have RB := hide e9
              clear e9
              generalize x.1 = x1 at *
              generalize x.2.1 = x2 at *
              generalize x.2.2 = x3 at *
              go_wp2_with fail
              rw [← hW1.out]
              clear hW1 cBn
              refine HN9.out.mono ?_
              rintro e1 w2 ⟨rfl, rfl⟩
              have cB1 := B1.out.cell
              cases hb2 : hasName d.1 x1 x2
              · have HF : Hid (R = false) := by show _ = _; rw [SE.out, allL_stop hxk.out (by rw [RB.out, hb2]; rfl)]
                clear hb2
                go_wp2
                go_ret
                exact ⟨ret_bool HF.out.symm, X.out⟩
              · rw [hb2] at RB
                clear hb2
                cases hb3 : inB 0 3 x3
                · have HF : Hid (R = false) := by show _ = _; rw [SE.out, allL_stop hxk.out (by rw [RB.out, hb3]; rfl)]
                  rw [hb3] at MK
                  clear hb3
                  go_wp2_with (go_at_call 47; refine MK.out.mono ?_; rintro e1 w' ⟨rfl, rfl⟩)
                  go_ret
                  exact ⟨ret_bool HF.out.symm, X.out⟩
                · have HN : Hid (reviewB d.1 x = true) := by show _ = _; rw [RB.out, hb3]; rfl
                  rw [hb3] at MK
                  clear hb3
                  go_wp2_with (go_at_call 47; refine MK.out.mono ?_; rintro e1 w' ⟨rfl, rfl⟩)
                  go_roundw
                  case rel => exact ⟨k + 1, by omega, by go_num, allL_step hxk.out HA.out HN.out, B0.out, X.out⟩
                  case measure => simp [intOf]; omega
            · have HV : Hid (d.2.2.all (reviewB d.1) = true) := allL_end (by rw [hm'.out]; omega) HA.out
              have HF : Hid (R = true) := by show _ = _; rw [SE.out, HV.out]
              go_wp2
              go_ret
              exact ⟨ret_bool HF.out.symm, X.out⟩
    · have b1 : ((n' : Int) != 3) = false := by simp [hv]
      have b2 : (20 : Int) < m' := by omega
      have HF : Hid (R = false) := by show _ = _; rw [SE.out, show decide ((m' : Int) ≤ 20) = false from by simp; omega]; simp
      clear hv hr
      go_wp2
      go_ret
      exact ⟨ret_bool HF.out.symm, X.out⟩
  · have b1 : ((n' : Int) != 3) = true := by rw [bne_iff_ne]; intro h8; exact hv (by omega)
    have HF : Hid (R = false) := by show _ = _; rw [SE.out, show ((n' : Int) == 3) = false from by rw [beq_eq_false_iff_ne]; intro h8; exact hv (by omega)]; simp
    clear hv
    go_wp2
    go_ret
    exact ⟨ret_bool HF.out.symm, X.out⟩

theorem i.IsSheet_law (w : World) (v : Value) (d : ShD) (h : kSh.rd w v d) (hok : kSh.ok d) :
    Calls Try.prog 11 #[v] w fun e w' => e = .returned (.bool (sheetB d)) ∧ Ext w w' := i.IsSheet_m w v d h hok
end Go.Proofs.Ytofmfagdaiphaaa
