/- The reference's list in increasing order. -/
import Derived.Test.YtmckompikbechaaPE
import Derived.Deep.RegionHeld3
namespace Go.Proofs.Ytmckompikbechaa
open Go.RowKit Go.Sort
set_option linter.unusedVariables false

theorem Sl.ext' {w w' : World} {B n : Nat} {A : Option Addr} {vs : List Value} (h : Sl w B A n vs) (x : Ext w w') (hB : B ≤ w.heap.size := by (first | exact Nat.le_refl _ | simp <;> omega)) : Sl w' B A n vs := h.keep fun p hp => x.cell (by omega)
theorem Sl.take_ext {w w' : World} {n k : Nat} {A : Option Addr} {zs : List Int} (h : SlI w w.heap.size A n zs) (hk : k ≤ n) (x : Ext w w') : SlI w' w.heap.size A k (zs.take k) := by
  have h2 := Sl.cutTo (k := k) h hk
  rw [← List.map_take] at h2
  exact SlI.ext h2 x (Nat.le_refl _)
set_option maxRecDepth 100000 in
set_option maxHeartbeats 2000000 in
theorem s.jdSorted_any (A : Option Addr) (n c B : Nat) (zs : List Int) (w : World) (h : SlI w B A n zs) (hB : B ≤ w.heap.size) (hn : n ≤ 1048576) :
    Calls Try.prog 99 #[.slice A n c] w fun e w' => ∃ A' c', e = .returned (.slice A' n c') ∧ OwnI 3 w' w.heap.size A' n c' (sortU zs) ∧ Ext w w' := by
  have hl := hide h.len
  have HS := hide h
  clear h
  go_enter Try.func99, Try.ntmps99
  go_wp2
  go_loopw [3, 5, 6, 9] (fun o _ _ i wr => ∃ (j : Nat) (A' : Option Addr) (c' : Nat), j ≤ n ∧ i = .int .i64 j ∧ o = .slice A' j c' ∧ OwnI 3 wr w.heap.size A' j c' (sortU (zs.take j)) ∧ Ext w wr) (fun _ _ _ i _ => n - (intOf i).toNat)
  case atStart => exact ⟨0, none, 0, Nat.zero_le _, rfl, rfl, OwnI.nil, Ext.refl _⟩
  case round =>
    obtain ⟨j, A', c', hj, rfl, rfl, hown, hx⟩ := hrel
    have HO := hide hown
    have HX := hide hx
    clear hown hx
    by_cases hlt : j < n
    · obtain ⟨b, off, rfl, hb, hc⟩ := (HS.out.ext HX.out hB).cells (by omega)
      have hck := hc j hlt
      have hins := hide (sortU_take_succ zs j (by have := hl.out; omega))
      have hlj : Hid ((sortU (zs.take j)).length = j) := by show _ = _; rw [sortU_len]; simp [hl.out]; omega
      clear hc
      generalize zs.getD j 0 = x at *
      generalize sortU (zs.take j) = out at *
      have hcapn := HO.out.capn
      have hcapm := HO.out.capm
      go_wp2
      obtain ⟨wo, rfl⟩ : ∃ wo : World, wo = wr := ⟨_, rfl⟩
      go_loop [6] (fun q => ∃ k : Nat, k ≤ j ∧ q = .int .i64 k ∧ posU out x k = posU out x j) (fun q => (intOf q).toNat)
      case atStart => exact ⟨j, Nat.le_refl _, rfl, rfl⟩
      case round =>
        obtain ⟨k, hk, rfl, hpos⟩ := hrel
        have HP := hide hpos
        clear hpos
        by_cases hgo : 0 < k ∧ x < out.getD (k - 1) 0
        · obtain ⟨hk0, hyx⟩ := hgo
          obtain ⟨k', rfl⟩ : ∃ k', k = k' + 1 := ⟨k - 1, by omega⟩
          obtain ⟨b', off', rfl, hb', hc'⟩ := HO.out.sl.cells (by omega)
          have hck' := hc' k' (by omega)
          clear hc'
          have hpk : Hid (posU out x (k' + 1) = if x < out.getD k' 0 then posU out x k' else k' + 1) := by show _ = _; rfl
          simp only [Nat.add_sub_cancel] at hyx
          generalize out.getD k' 0 = y at *
          go_wp2
          go_round
          case rel => exact ⟨k', by omega, rfl, by rw [← HP.out, hpk.out, if_pos hyx]⟩
          case measure => simp [intOf]
        · have HK : Hid (posU out x j = k) := by
            show _ = _
            rw [← HP.out]
            cases k with
            | zero => rfl
            | succ k' =>
              have : ¬ x < out.getD k' 0 := fun h => hgo ⟨by omega, by simpa using h⟩
              unfold posU
              rw [if_neg this]
          have HI : Hid (insU out x = (out.take k ++ [x]) ++ out.drop k) := by show insU out x = _; unfold insU; rw [hlj.out, HK.out]; simp
          clear HP HK
          have OWN := hide (fun (wq : World) (xq : Ext wo wq) => s.l1Own_any A' k c' wo.heap.size (out.take k) wq (Sl.take_ext HO.out.sl hk xq) xq.size (by omega))
          have cases_k : k = 0 ∨ ∃ k', k = k' + 1 ∧ ∃ b' off', A' = some ⟨b', off', none⟩ ∧ (wo.cell? ⟨b', off' + k', none⟩ = some (.int .i64 (out.getD k' 0))) ∧ ¬ x < out.getD k' 0 := by
            cases k with
            | zero => exact .inl rfl
            | succ k' =>
              obtain ⟨b', off', e, hb', hc'⟩ := HO.out.sl.cells (by omega)
              exact .inr ⟨k', rfl, b', off', e, hc' k' (by omega), fun h => hgo ⟨by omega, by simpa using h⟩⟩
          clear hgo
          rcases cases_k with rfl | ⟨k', rfl, b', off', rfl, hck', hyx⟩
          · have SD : Hid (SlI wo wo.heap.size A' j (out.drop 0)) := HO.out.sl
            go_wp2
            go_region_held3 (fun w' => True) (exact trivial)
              (first
              | (go_at_call 126; refine (OWN.out _ (by (first | with_reducible exact Ext.drew _ | with_reducible exact (Ext.alloc _ _).trans (Ext.drew _)))).mono ?_; rintro e w1 ⟨A1, c1, rfl, o1, x1⟩; have Y1 : Hid (Ext wo w1) := Ext.trans (by (first | with_reducible exact Ext.drew _ | with_reducible exact (Ext.alloc _ _).trans (Ext.drew _))) x1; have O1 : Hid (OwnI 3 w1 wo.heap.size A1 0 c1 (out.take 0)) := OwnI.lower o1 (by simp); have F1 := hide (Own.fromLo o1); have SD1 := hide (SD.out.ext' Y1.out); have X1 := hide x1; have sz1 := Y1.out.size; clear o1 x1)
              | (refine step_append_sl (by rfl) (.tmp 31) (.tmp 33) (by rfl) elem_int (by rfl) (by rfl) (lo := wo.heap.size) (Own.alloc O1.out _) (Sl.one w1 (.int .i64 x) 3) (one_int x) (by omega) (by omega) (by simp <;> omega) ?_; intro A2 c2 w2 hap2; have SD2 := hide ((SD1.out.alloc sz1 _).apdLo (by simp <;> omega) hap2 (fun p hp => by have := F1.out p hp; simp at this; omega)); have X2 := hide (hap2.ext (Y1.out.trans (Ext.alloc _ _)) (fun p hp => by have := F1.out p hp; simp at this; omega)); have O2 := hide hap2.own; have sz2 := X2.out.size; clear hap2)
              | (refine step_append_sl (by rfl) (.tmp 31) (.tmp 33) (by rfl) elem_int (by rfl) (by rfl) (lo := wo.heap.size) O1.out (Sl.ext' ((Sl.one wo (.int .i64 x) 3).drew) X1.out) (one_int x) (by omega) (by omega) (by omega) ?_; intro A2 c2 w2 hap2; have SD2 := hide (SD1.out.apdLo sz1 hap2 (fun p hp => by have := F1.out p hp; simp at this; omega)); have X2 := hide (hap2.ext Y1.out (fun p hp => by have := F1.out p hp; simp at this; omega)); have O2 := hide hap2.own; have sz2 := X2.out.size; clear hap2)
              | (refine step_append_sl (by rfl) (.tmp 34) (.tmp 37) (by rfl) elem_int (by rfl) (by rfl) (lo := wo.heap.size) O2.out SD2.out (oneCell_ints _) (by omega) (by omega) sz2 ?_; intro A3 c3 w3 hap3; have X3 := hide (hap3.ext X2.out (Own.fromLo O2.out)); have O3 := hide hap3.own; clear hap3))
            all_goals
              go_wp2
              go_roundw
              case rel => exact ⟨j + 1, A3, c3, by omega, by go_num, congrArg (fun m => Value.slice A3 m c3) (by omega), own_conv O3.out HX.out.size (by omega) (by rw [hins.out, HI.out]; simp), HX.out.trans X3.out⟩
              case measure => simp [intOf]; omega
          · have q1 : (k' : Int) + 1 ≤ j := by omega
            have q2 : (k' : Int) + 1 ≤ c' := by omega
            have q0 : 0 ≤ (k' : Int) + 1 := by omega
            generalize out.getD k' 0 = y at *
            have SD : Hid (Sl wo wo.heap.size (if c' = k' + 1 then some ⟨b', off', none⟩ else some ⟨b', off' + (k' + 1), none⟩) (j - (k' + 1)) ((out.drop (k' + 1)).map (Value.int .i64))) := by
              show Sl _ _ _ _ _
              rw [List.map_drop]
              exact Sl.cutFrom HO.out.sl (by omega) (fun h => by rw [if_neg (by omega)])
            by_cases hcc : c' = k' + 1
            case' pos => subst hcc; rw [if_pos rfl, show j - (k' + 1) = 0 by omega] at SD
            case' neg => rw [if_neg hcc] at SD
            all_goals
              go_wp2
              go_region_held3 (fun w' => True) (exact trivial)
                (first
                | (go_at_call 126; refine (OWN.out _ (by (first | with_reducible exact Ext.drew _ | with_reducible exact (Ext.alloc _ _).trans (Ext.drew _)))).mono ?_; rintro e w1 ⟨A1, c1, rfl, o1, x1⟩; have Y1 : Hid (Ext wo w1) := Ext.trans (by (first | with_reducible exact Ext.drew _ | with_reducible exact (Ext.alloc _ _).trans (Ext.drew _))) x1; have O1 : Hid (OwnI 3 w1 wo.heap.size A1 (k' + 1) c1 (out.take (k' + 1))) := OwnI.lower o1 (by simp); have F1 := hide (Own.fromLo o1); have SD1 := hide (SD.out.ext' Y1.out); have X1 := hide x1; have sz1 := Y1.out.size; clear o1 x1)
                | (refine step_append_sl (by rfl) (.tmp 31) (.tmp 33) (by rfl) elem_int (by rfl) (by rfl) (lo := wo.heap.size) (Own.alloc O1.out _) (Sl.one w1 (.int .i64 x) 3) (one_int x) (by omega) (by omega) (by simp <;> omega) ?_; intro A2 c2 w2 hap2; have SD2 := hide ((SD1.out.alloc sz1 _).apdLo (by simp <;> omega) hap2 (fun p hp => by have := F1.out p hp; simp at this; omega)); have X2 := hide (hap2.ext (Y1.out.trans (Ext.alloc _ _)) (fun p hp => by have := F1.out p hp; simp at this; omega)); have O2 := hide hap2.own; have sz2 := X2.out.size; clear hap2)
                | (refine step_append_sl (by rfl) (.tmp 31) (.tmp 33) (by rfl) elem_int (by rfl) (by rfl) (lo := wo.heap.size) O1.out (Sl.ext' ((Sl.one wo (.int .i64 x) 3).drew) X1.out) (one_int x) (by omega) (by omega) (by omega) ?_; intro A2 c2 w2 hap2; have SD2 := hide (SD1.out.apdLo sz1 hap2 (fun p hp => by have := F1.out p hp; simp at this; omega)); have X2 := hide (hap2.ext Y1.out (fun p hp => by have := F1.out p hp; simp at this; omega)); have O2 := hide hap2.own; have sz2 := X2.out.size; clear hap2)
                | (refine step_append_sl (by rfl) (.tmp 34) (.tmp 37) (by rfl) elem_int (by rfl) (by rfl) (lo := wo.heap.size) O2.out SD2.out (oneCell_ints _) (by omega) (by omega) sz2 ?_; intro A3 c3 w3 hap3; have X3 := hide (hap3.ext X2.out (Own.fromLo O2.out)); have O3 := hide hap3.own; clear hap3))
              all_goals
                go_wp2
                go_roundw
                case rel => exact ⟨j + 1, A3, c3, by omega, by go_num, congrArg (fun m => Value.slice A3 m c3) (by omega), own_conv O3.out HX.out.size (by omega) (by rw [hins.out, HI.out]; simp), HX.out.trans X3.out⟩
                case measure => simp [intOf]; omega
    · go_wp2
      go_ret
      have ej : j = n := by omega
      refine ⟨A', c', ?_, ?_, HX.out⟩
      · subst ej; rfl
      · subst ej
        have := HO.out
        rwa [List.take_of_length_le (by rw [hl.out]; exact Nat.le_refl _)] at this
end Go.Proofs.Ytmckompikbechaa
