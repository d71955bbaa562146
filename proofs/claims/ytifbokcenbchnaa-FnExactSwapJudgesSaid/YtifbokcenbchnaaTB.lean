import Derived.Test.YtifbokcenbchnaaTC
import Derived.Deep.RegionLaw
namespace Go.Proofs.Ytifbokcenbchnaa
open Go.RowKit

theorem one_int (x : Int) : ∀ u ∈ [Value.int .i64 x], u.oneCell' = true := by simp [Value.oneCell']

set_option maxHeartbeats 2000000 in
theorem s.poSorted_any (A : Option Addr) (n c B : Nat) (zs : List Int) (w : World) (h : SlI w B A n zs) (hB : B ≤ w.heap.size) (hn : n ≤ 1048576) :
    Calls Try.prog 65 #[.slice A n c] w fun e w' => ∃ A' c', e = .returned (.slice A' n c') ∧ OwnI 3 w' w.heap.size A' n c' (sortD zs) ∧ Ext w w' := by
  have hl := hide h.len
  have HS := hide h
  clear h
  go_enter Try.func65, Try.ntmps65
  go_wp2
  go_loopw [3, 5, 6, 9] (fun o _ _ i wr => ∃ (j : Nat) (A' : Option Addr) (c' : Nat), j ≤ n ∧ i = .int .i64 j ∧ o = .slice A' j c' ∧ OwnI 3 wr w.heap.size A' j c' (sortD (zs.take j)) ∧ Ext w wr) (fun _ _ _ i _ => n - (intOf i).toNat)
  case atStart => exact ⟨0, none, 0, Nat.zero_le _, rfl, rfl, OwnI.nil, Ext.refl _⟩
  case round =>
    obtain ⟨j, A', c', hj, rfl, rfl, hown, hx⟩ := hrel
    have HO := hide hown
    have HX := hide hx
    clear hown hx
    by_cases hlt : j < n
    · obtain ⟨b, off, rfl, hb, hc⟩ := (HS.out.ext HX.out hB).cells (by omega)
      have hck := hc j hlt
      have hins := hide (sortD_take_succ zs j (by have := hl.out; omega))
      have hlj : Hid ((sortD (zs.take j)).length = j) := by show _ = _; rw [sortD_len]; simp [hl.out]; omega
      clear hc
      generalize zs.getD j 0 = x at *
      generalize sortD (zs.take j) = out at *
      have hcapn := HO.out.capn
      have hcapm := HO.out.capm
      go_wp2
      obtain ⟨wo, rfl⟩ : ∃ wo : World, wo = wr := ⟨_, rfl⟩
      go_loop [6] (fun q => ∃ k : Nat, k ≤ j ∧ q = .int .i64 k ∧ posD out x k = posD out x j) (fun q => (intOf q).toNat)
      case atStart => exact ⟨j, Nat.le_refl _, rfl, rfl⟩
      case round =>
        obtain ⟨k, hk, rfl, hpos⟩ := hrel
        have HP := hide hpos
        clear hpos
        by_cases hgo : 0 < k ∧ out.getD (k - 1) 0 < x
        · obtain ⟨hk0, hyx⟩ := hgo
          obtain ⟨k', rfl⟩ : ∃ k', k = k' + 1 := ⟨k - 1, by omega⟩
          obtain ⟨b', off', rfl, hb', hc'⟩ := HO.out.sl.cells (by omega)
          have hck' := hc' k' (by omega)
          clear hc'
          have hpk : Hid (posD out x (k' + 1) = if out.getD k' 0 < x then posD out x k' else k' + 1) := by show _ = _; rfl
          simp only [Nat.add_sub_cancel] at hyx
          generalize out.getD k' 0 = y at *
          go_wp2
          go_round
          case rel => exact ⟨k', by omega, rfl, by rw [← HP.out, hpk.out, if_pos hyx]⟩
          case measure => simp [intOf]
        · have HK : Hid (posD out x j = k) := by
            show _ = _
            rw [← HP.out]
            cases k with
            | zero => rfl
            | succ k' =>
              have : ¬ out.getD k' 0 < x := fun h => hgo ⟨by omega, by simpa using h⟩
              unfold posD
              rw [if_neg this]
          have HI : Hid (insD out x = (out.take k ++ [x]) ++ out.drop k) := by show insD out x = _; unfold insD; rw [hlj.out, HK.out]; simp
          clear HP HK
          have SK := hide (HO.out.sl.cutTo (k := k) hk)
          have cases_k : k = 0 ∨ ∃ k', k = k' + 1 ∧ ∃ b' off', A' = some ⟨b', off', none⟩ ∧ (wo.cell? ⟨b', off' + k', none⟩ = some (.int .i64 (out.getD k' 0))) ∧ ¬ out.getD k' 0 < x := by
            cases k with
            | zero => exact .inl rfl
            | succ k' =>
              obtain ⟨b', off', e, hb', hc'⟩ := HO.out.sl.cells (by omega)
              exact .inr ⟨k', rfl, b', off', e, hc' k' (by omega), fun h => hgo ⟨by omega, by simpa using h⟩⟩
          clear hgo
          rcases cases_k with rfl | ⟨k', rfl, b', off', rfl, hck', hyx⟩
          · have SD : Hid (SlI wo wo.heap.size A' j (out.drop 0)) := HO.out.sl
            go_wp2
            go_region_law (first
              | ((refine step_append_sl (by rfl) (.tmp 28) (.tmp 31) (by rfl) elem_int (by rfl) (by rfl) (lo := wo.heap.size) (Own.empty wo 3 (Nat.le_refl _)).drew (SK.out.alloc (Nat.le_refl _) (.cells #[] 3)).drew (oneCell_ints _) (by omega) (by omega) (by simp <;> omega) ?_; intro A1 c1 w1 hap1; simp only [Nat.zero_add, List.nil_append] at hap1; have SD1 := hide ((SD.out.alloc (Nat.le_refl _) (.cells #[] 3)).drew.apdLo (by simp <;> omega) hap1 (fun p hp => by cases hp; simp)); have X1 := hide (hap1.ext (((Ext.alloc wo _).trans (Ext.drew _))) (fun p hp => by cases hp; simp)); have sz1 := X1.out.size))
              | ((refine step_append_sl (by rfl) (.tmp 28) (.tmp 31) (by rfl) elem_int (by rfl) (by rfl) (lo := wo.heap.size) ((Own.empty wo 3 (Nat.le_refl _)).alloc (.cells #[.int .i64 x] 3)).drew ((SK.out.alloc (Nat.le_refl _) (.cells #[] 3)).alloc (by simp) (.cells #[.int .i64 x] 3)).drew (oneCell_ints _) (by omega) (by omega) (by simp <;> omega) ?_; intro A1 c1 w1 hap1; simp only [Nat.zero_add, List.nil_append] at hap1; have SD1 := hide (((SD.out.alloc (Nat.le_refl _) (.cells #[] 3)).alloc (by simp) (.cells #[.int .i64 x] 3)).drew.apdLo (by simp <;> omega) hap1 (fun p hp => by cases hp; simp)); have X1 := hide (hap1.ext ((((Ext.alloc wo _).trans (Ext.alloc _ _)).trans (Ext.drew _))) (fun p hp => by cases hp; simp)); have LT := hide ((Sl.oneAt (w := wo.alloc (.cells #[] 3)) (H := wo.heap.size + 1) (by simp) (.int .i64 x) 3).drew.apd (by simp) hap1 (fun p q hp hq => by cases hp; cases hq; simp)); have sz1 := X1.out.size))
              | ((refine step_append_sl (by rfl) (.tmp 28) (.tmp 31) (by rfl) elem_int (by rfl) (by rfl) (lo := wo.heap.size) (Own.emptyAt (w := wo.alloc (.cells #[.int .i64 x] 3)) (H := wo.heap.size + 1) (by simp) 3 (by omega)).drew ((SK.out.alloc (Nat.le_refl _) (.cells #[.int .i64 x] 3)).alloc (by simp) (.cells #[] 3)).drew (oneCell_ints _) (by omega) (by omega) (by simp <;> omega) ?_; intro A1 c1 w1 hap1; simp only [Nat.zero_add, List.nil_append] at hap1; have SD1 := hide (((SD.out.alloc (Nat.le_refl _) (.cells #[.int .i64 x] 3)).alloc (by simp) (.cells #[] 3)).drew.apdLo (by simp <;> omega) hap1 (fun p hp => by cases hp; simp)); have X1 := hide (hap1.ext ((((Ext.alloc wo _).trans (Ext.alloc _ _)).trans (Ext.drew _))) (fun p hp => by cases hp; simp)); have LT := hide (((Sl.one wo (.int .i64 x) 3).alloc (by simp) (.cells #[] 3)).drew.apd (by simp) hap1 (fun p q hp hq => by cases hp; cases hq; simp)); have sz1 := X1.out.size))
              | ((refine step_append_sl (by rfl) (.tmp 32) (.tmp 34) (by rfl) elem_int (by rfl) (by rfl) (lo := wo.heap.size) (hap1.own.alloc _) (Sl.one w1 (.int .i64 x) 3) (one_int x) (by omega) (by omega) (by simp <;> omega) ?_; intro A2 c2 w2 hap2; have SD2 := hide ((SD1.out.alloc sz1 _).apdLo (by simp <;> omega) hap2 hap1.own.fromLo); have X2 := hide (hap2.ext (X1.out.trans (Ext.alloc _ _)) hap1.own.fromLo); have sz2 := X2.out.size))
              | ((refine step_append_sl (by rfl) (.tmp 32) (.tmp 34) (by rfl) elem_int (by rfl) (by rfl) (lo := wo.heap.size) hap1.own LT.out (one_int x) (by omega) (by omega) sz1 ?_; intro A2 c2 w2 hap2; have SD2 := hide (SD1.out.apdLo sz1 hap2 hap1.own.fromLo); have X2 := hide (hap2.ext X1.out hap1.own.fromLo); have sz2 := X2.out.size))
              | ((refine step_append_sl (by rfl) (.tmp 35) (.tmp 38) (by rfl) elem_int (by rfl) (by rfl) (lo := wo.heap.size) hap2.own SD2.out (oneCell_ints _) (by omega) (by omega) sz2 ?_; intro A3 c3 w3 hap3; have X3 := hide (hap3.ext X2.out hap2.own.fromLo))))
            all_goals
              go_wp2
              go_roundw
              case rel => exact ⟨j + 1, A3, c3, by omega, by go_num, congrArg (fun m => Value.slice A3 m c3) (by omega), own_conv hap3.own HX.out.size (by omega) (by rw [hins.out, HI.out]; simp), HX.out.trans X3.out⟩
              case measure => simp [intOf]; omega
          · have q1 : (k' : Int) + 1 ≤ j := by omega
            have q2 : (k' : Int) + 1 ≤ c' := by omega
            have q0 : 0 ≤ (k' : Int) + 1 := by omega
            generalize out.getD k' 0 = y at *
            have SD : Hid (Sl wo wo.heap.size (if c' = k' + 1 then some ⟨b', off', none⟩ else some ⟨b', off' + (k' + 1), none⟩) (j - (k' + 1)) ((out.drop (k' + 1)).map (Value.int .i64))) := by
              show Sl _ _ _ _ _
              rw [List.map_drop]
              exact Sl.cutFrom HO.out.sl (by omega) (fun h => by rw [if_neg (by omega)])
            go_wp2
            go_region_law (first
              | ((refine step_append_sl (by rfl) (.tmp 28) (.tmp 31) (by rfl) elem_int (by rfl) (by rfl) (lo := wo.heap.size) (Own.empty wo 3 (Nat.le_refl _)).drew (SK.out.alloc (Nat.le_refl _) (.cells #[] 3)).drew (oneCell_ints _) (by omega) (by omega) (by simp <;> omega) ?_; intro A1 c1 w1 hap1; simp only [Nat.zero_add, List.nil_append] at hap1; have SD1 := hide ((SD.out.alloc (Nat.le_refl _) (.cells #[] 3)).drew.apdLo (by simp <;> omega) hap1 (fun p hp => by cases hp; simp)); have X1 := hide (hap1.ext (((Ext.alloc wo _).trans (Ext.drew _))) (fun p hp => by cases hp; simp)); have sz1 := X1.out.size))
              | ((refine step_append_sl (by rfl) (.tmp 28) (.tmp 31) (by rfl) elem_int (by rfl) (by rfl) (lo := wo.heap.size) ((Own.empty wo 3 (Nat.le_refl _)).alloc (.cells #[.int .i64 x] 3)).drew ((SK.out.alloc (Nat.le_refl _) (.cells #[] 3)).alloc (by simp) (.cells #[.int .i64 x] 3)).drew (oneCell_ints _) (by omega) (by omega) (by simp <;> omega) ?_; intro A1 c1 w1 hap1; simp only [Nat.zero_add, List.nil_append] at hap1; have SD1 := hide (((SD.out.alloc (Nat.le_refl _) (.cells #[] 3)).alloc (by simp) (.cells #[.int .i64 x] 3)).drew.apdLo (by simp <;> omega) hap1 (fun p hp => by cases hp; simp)); have X1 := hide (hap1.ext ((((Ext.alloc wo _).trans (Ext.alloc _ _)).trans (Ext.drew _))) (fun p hp => by cases hp; simp)); have LT := hide ((Sl.oneAt (w := wo.alloc (.cells #[] 3)) (H := wo.heap.size + 1) (by simp) (.int .i64 x) 3).drew.apd (by simp) hap1 (fun p q hp hq => by cases hp; cases hq; simp)); have sz1 := X1.out.size))
              | ((refine step_append_sl (by rfl) (.tmp 28) (.tmp 31) (by rfl) elem_int (by rfl) (by rfl) (lo := wo.heap.size) (Own.emptyAt (w := wo.alloc (.cells #[.int .i64 x] 3)) (H := wo.heap.size + 1) (by simp) 3 (by omega)).drew ((SK.out.alloc (Nat.le_refl _) (.cells #[.int .i64 x] 3)).alloc (by simp) (.cells #[] 3)).drew (oneCell_ints _) (by omega) (by omega) (by simp <;> omega) ?_; intro A1 c1 w1 hap1; simp only [Nat.zero_add, List.nil_append] at hap1; have SD1 := hide (((SD.out.alloc (Nat.le_refl _) (.cells #[.int .i64 x] 3)).alloc (by simp) (.cells #[] 3)).drew.apdLo (by simp <;> omega) hap1 (fun p hp => by cases hp; simp)); have X1 := hide (hap1.ext ((((Ext.alloc wo _).trans (Ext.alloc _ _)).trans (Ext.drew _))) (fun p hp => by cases hp; simp)); have LT := hide (((Sl.one wo (.int .i64 x) 3).alloc (by simp) (.cells #[] 3)).drew.apd (by simp) hap1 (fun p q hp hq => by cases hp; cases hq; simp)); have sz1 := X1.out.size))
              | ((refine step_append_sl (by rfl) (.tmp 32) (.tmp 34) (by rfl) elem_int (by rfl) (by rfl) (lo := wo.heap.size) (hap1.own.alloc _) (Sl.one w1 (.int .i64 x) 3) (one_int x) (by omega) (by omega) (by simp <;> omega) ?_; intro A2 c2 w2 hap2; have SD2 := hide ((SD1.out.alloc sz1 _).apdLo (by simp <;> omega) hap2 hap1.own.fromLo); have X2 := hide (hap2.ext (X1.out.trans (Ext.alloc _ _)) hap1.own.fromLo); have sz2 := X2.out.size))
              | ((refine step_append_sl (by rfl) (.tmp 32) (.tmp 34) (by rfl) elem_int (by rfl) (by rfl) (lo := wo.heap.size) hap1.own LT.out (one_int x) (by omega) (by omega) sz1 ?_; intro A2 c2 w2 hap2; have SD2 := hide (SD1.out.apdLo sz1 hap2 hap1.own.fromLo); have X2 := hide (hap2.ext X1.out hap1.own.fromLo); have sz2 := X2.out.size))
              | ((refine step_append_sl (by rfl) (.tmp 35) (.tmp 38) (by rfl) elem_int (by rfl) (by rfl) (lo := wo.heap.size) hap2.own SD2.out (oneCell_ints _) (by omega) (by omega) sz2 ?_; intro A3 c3 w3 hap3; have X3 := hide (hap3.ext X2.out hap2.own.fromLo))))
            all_goals
              go_wp2
              go_roundw
              case rel => exact ⟨j + 1, A3, c3, by omega, by go_num, congrArg (fun m => Value.slice A3 m c3) (by omega), own_conv hap3.own HX.out.size (by omega) (by rw [hins.out, HI.out]; simp), HX.out.trans X3.out⟩
              case measure => simp [intOf]; omega
    · go_wp2
      go_ret
      have ej : j = n := by omega
      refine ⟨A', c', ?_, ?_, HX.out⟩
      · subst ej; rfl
      · subst ej
        have := HO.out
        rwa [List.take_of_length_le (by rw [hl.out]; exact Nat.le_refl _)] at this
end Go.Proofs.Ytifbokcenbchnaa
