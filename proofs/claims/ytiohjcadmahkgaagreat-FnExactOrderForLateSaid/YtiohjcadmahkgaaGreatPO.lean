/- How often a name occurs. -/
import Derived.Test.YtiohjcadmahkgaaGreatPN
namespace Go.Proofs.YtiohjcadmahkgaaGreat
open Go.RowKit Go.Sort
set_option linter.unusedVariables false

theorem get_exP {α : Type} (xs : List α) (k : Nat) (h : k < xs.length) : ∃ x, Hid (xs[k]? = some x) := ⟨xs[k], List.getElem?_eq_getElem h⟩
theorem i.isCombined_any (w : World) (A A' : Option Addr) (n c n' c' : Nat) (q : Bool) (h : n ≤ c) (hc : c ≤ 9223372036854775807) :
    Calls Tryz.prog 105 #[.agg #[.slice A n c, .slice A' n' c', .bool q]] w fun e w' => e = .returned (.bool (decide (1 < n))) ∧ Ext w w' := by
  obtain ⟨R, hR⟩ : ∃ R, Hid (decide (1 < n) = R) := ⟨_, rfl⟩
  rw [hR.out]
  by_cases h1 : 1 < n
  · have HF : Hid (R = true) := by show _ = _; rw [← hR.out]; simp [h1]
    have i1 : (1 : Int) < n := by omega
    go_enter Tryz.func105, Tryz.ntmps105
    go_wp2
    go_ret
    first | exact ⟨ret_bool HF.out.symm, Ext.alloc _ _⟩ | exact ⟨ret_bool HF.out.symm, Ext.refl _⟩
  · have HF : Hid (R = false) := by show _ = _; rw [← hR.out]; simp [h1]
    have i1 : ¬ (1 : Int) < n := by omega
    go_enter Tryz.func105, Tryz.ntmps105
    go_wp2
    go_ret
    first | exact ⟨ret_bool HF.out.symm, Ext.alloc _ _⟩ | exact ⟨ret_bool HF.out.symm, Ext.refl _⟩

set_option maxRecDepth 100000 in
set_option maxHeartbeats 2000000 in
theorem s.pgTimes_m (w : World) (A : Option Addr) (c B : Nat) (xs : List ItD) (nm : List UInt8) (hi : LR kdItem w B A c xs) (hB : B ≤ w.heap.size) (h14 : xs.length ≤ 14) (h3 : ∀ x ∈ xs, x.1.length ≤ 3) :
    Calls Tryz.prog 110 #[.slice A xs.length c, .string (bs nm)] w fun e w' => e = .returned (.tuple #[.int .i64 (occN xs nm), .int .i64 (occC xs nm)]) ∧ Ext w w' := by
  have H := hide hi
  have H3 := hide h3
  have a1 := hi.1; have a2 := hi.2.1
  have OL := hide (occ_le h3 nm)
  clear hi h3
  obtain ⟨n, hn⟩ : ∃ n, Hid (xs.length = n) := ⟨_, rfl⟩
  obtain ⟨RN, hRN⟩ : ∃ z, Hid (occN xs nm = z) := ⟨_, rfl⟩
  obtain ⟨RC, hRC⟩ : ∃ z, Hid (occC xs nm = z) := ⟨_, rfl⟩
  rw [hn.out] at h14 a1 ⊢
  rw [hRN.out, hRC.out]
  have EQ : Hid (∀ o : List UInt8, ((bs o).toList == (bs nm).toList) = (o == nm)) := fun o => by rw [bs_toList, bs_toList]
  generalize bs nm = nb at *
  go_enter Tryz.func110, Tryz.ntmps110
  go_wp2
  go_loopw [6, 7, 14] (fun t u i0 wr => ∃ (k a b : Nat), k ≤ n ∧ i0 = .int .i64 k ∧ t = .int .i64 a ∧ u = .int .i64 b ∧ Hid (a = occN (xs.take k) nm) ∧ Hid (b = occC (xs.take k) nm) ∧ Ext w wr) (fun _ _ i0 _ => n - (intOf i0).toNat)
  case atStart => exact ⟨0, 0, 0, Nat.zero_le _, rfl, rfl, rfl, rfl, rfl, Ext.refl _⟩
  case round =>
    obtain ⟨k, a, b, hk, rfl, rfl, rfl, ha, hb, hx⟩ := hrel
    have HX := hide hx
    have ol := OL.out k
    rw [← ha.out, ← hb.out] at ol
    have ol1 := ol.1; have ol2 := ol.2
    clear hx ol
    by_cases hlt : k < n
    · obtain ⟨x, hxk⟩ : ∃ x, Hid (xs[k]? = some x) := get_exP xs k (by rw [hn.out]; exact hlt)
      have x3 := H3.out x (List.mem_of_getElem? hxk.out)
      obtain ⟨bb, off, A1, c1, A2, c2, rfl, hbb, q0, q1, q2, r1, r2⟩ := (H.out.ext HX.out hB).item k x hxk.out
      have sz := HX.out.size
      obtain ⟨W1, hW1⟩ : ∃ W1, Hid (W1 = wr.alloc (.cells #[.slice A1 x.1.length c1, .slice A2 x.2.1.length c2, .bool x.2.2] 53)) := ⟨_, rfl⟩
      have X1 : Hid (Ext w W1) := by rw [hW1.out]; exact HX.out.trans (Ext.alloc _ _)
      have B1 : Hid (Blk W1 wr.heap.size #[.slice A1 x.1.length c1, .slice A2 x.2.1.length c2, .bool x.2.2] 53) := by rw [hW1.out]; exact Blk.new rfl _ _
      have R1 := hide (r1.ext (show Ext wr W1 by rw [hW1.out]; exact Ext.alloc _ _) (by omega))
      have b1 := r1.1; have b2 := r1.2.1
      have OP := hide (occP_all nm x)
      have CI : Hid (combI x = decide (1 < x.1.length)) := rfl
      clear r1 r2
      obtain ⟨m, hm⟩ : ∃ m, Hid (x.1.length = m) := ⟨_, rfl⟩
      rw [hm.out] at q0 hW1 b1 B1 x3 OP CI
      generalize x.2.1.length = m2 at *
      generalize x.2.2 = m3 at *
      have cI := B1.out.cell
      rw [hW1.out] at cI
      go_wp2
      rw [← hW1.out]
      clear hW1 q0 q1 q2 cI
      go_loopw [6, 7, 21] (fun t u i0 wq => ∃ (j a' b' : Nat), j ≤ m ∧ i0 = .int .i64 j ∧ t = .int .i64 a' ∧ u = .int .i64 b' ∧ Hid (a' = a + occP nm x j) ∧ Hid (b' = b + if combI x then occP nm x j else 0) ∧ a' ≤ a + j ∧ b' ≤ b + j ∧ Ext W1 wq) (fun _ _ i0 _ => m - (intOf i0).toNat)
      case atStart => exact ⟨0, a, b, Nat.zero_le _, rfl, rfl, rfl, by show _ = _; simp [occP], by show _ = _; simp [occP], by omega, by omega, Ext.refl _⟩
      case round =>
        obtain ⟨j, a', b', hj, rfl, rfl, rfl, ha', hb', la, lb, hx⟩ := hrel
        have HX2 := hide hx
        clear hx
        have sz1 := X1.out.size
        have cI := (B1.out.ext HX2.out).cell
        by_cases hltj : j < m
        · obtain ⟨o, hoj⟩ : ∃ o, Hid (x.1[j]? = some o) := get_exP x.1 j (by rw [hm.out]; exact hltj)
          obtain ⟨b9, off9, rfl, hb9, u0, ul⟩ := (R1.out.ext HX2.out (by omega)).str j o hoj.out
          have PS := hide (occP_succ nm hoj.out)
          have EX := EQ.out o
          cases he : (o == nm)
          · rw [he] at EX PS
            clear he
            generalize bs o = ob at *
            go_wp2
            go_roundw
            case rel => exact ⟨j + 1, a', b', by omega, by go_num, rfl, rfl, by show _ = _; rw [PS.out, ha'.out]; simp, by show _ = _; rw [PS.out, hb'.out]; simp, by omega, by omega, HX2.out⟩
            case measure => simp [intOf]; omega
          · rw [he] at EX PS
            clear he
            generalize bs o = ob at *
            by_cases hcm : 1 < m
            · have HC : Hid (combI x = true) := by show _ = _; rw [CI.out]; simp [hcm]
              have i1 : (1 : Int) < m := by omega
              clear hcm
              go_wp2
              go_roundw
              case rel => exact ⟨j + 1, a' + 1, b' + 1, by omega, by go_num, by go_num, by go_num, by show _ = _; rw [PS.out, ha'.out]; simp; omega, by show _ = _; rw [PS.out, hb'.out, HC.out]; simp; omega, by omega, by omega, HX2.out⟩
              case measure => simp [intOf]; omega
            · have HC : Hid (combI x = false) := by show _ = _; rw [CI.out]; simp [hcm]
              have i1 : ¬ (1 : Int) < m := by omega
              clear hcm
              go_wp2
              go_roundw
              case rel => exact ⟨j + 1, a' + 1, b', by omega, by go_num, by go_num, rfl, by show _ = _; rw [PS.out, ha'.out]; simp; omega, by show _ = _; rw [hb'.out, HC.out]; simp, by omega, by omega, HX2.out⟩
              case measure => simp [intOf]; omega
        · have ej : m = j := by omega
          subst ej
          rw [OP.out] at ha' hb'
          go_wp2
          go_roundw
          case rel => exact ⟨k + 1, a', b', by omega, by go_num, rfl, rfl, by show _ = _; rw [ha'.out, ha.out, occN_succ nm hxk.out], by show _ = _; rw [hb'.out, hb.out, occC_succ nm hxk.out], X1.out.trans HX2.out⟩
          case measure => simp [intOf]; omega
    · have ek : n = k := by omega
      subst ek
      rw [List.take_of_length_le (by rw [hn.out]; exact Nat.le_refl _)] at ha hb
      rw [hRN.out] at ha
      rw [hRC.out] at hb
      go_wp2
      refine bodyPost_ret (v := .tuple #[.int .i64 a, .int .i64 b]) (by simp [results, Tryz.results110, go_sem]) rfl ?_
      exact ⟨by rw [ha.out, hb.out], HX.out⟩
set_option maxRecDepth 100000 in
set_option maxHeartbeats 2000000 in
theorem i.timesOf_m (w : World) (A : Option Addr) (c B : Nat) (xs : List ItD) (nm : List UInt8) (hi : LR kdItem w B A c xs) (hB : B ≤ w.heap.size) (h14 : xs.length ≤ 14) (h3 : ∀ x ∈ xs, x.1.length ≤ 3) :
    Calls Tryz.prog 107 #[.slice A xs.length c, .string (bs nm)] w fun e w' => e = .returned (.tuple #[.int .i64 (occN xs nm), .int .i64 (occC xs nm)]) ∧ Ext w w' := by
  have H := hide hi
  have H3 := hide h3
  have a1 := hi.1; have a2 := hi.2.1
  have OL := hide (occ_le h3 nm)
  clear hi h3
  obtain ⟨n, hn⟩ : ∃ n, Hid (xs.length = n) := ⟨_, rfl⟩
  obtain ⟨RN, hRN⟩ : ∃ z, Hid (occN xs nm = z) := ⟨_, rfl⟩
  obtain ⟨RC, hRC⟩ : ∃ z, Hid (occC xs nm = z) := ⟨_, rfl⟩
  rw [hn.out] at h14 a1 ⊢
  rw [hRN.out, hRC.out]
  have EQ : Hid (∀ o : List UInt8, ((bs o).toList == (bs nm).toList) = (o == nm)) := fun o => by rw [bs_toList, bs_toList]
  generalize bs nm = nb at *
  go_enter Tryz.func107, Tryz.ntmps107
  go_wp2
  go_loopw [6, 7, 14] (fun t u i0 wr => ∃ (k a b : Nat), k ≤ n ∧ i0 = .int .i64 k ∧ t = .int .i64 a ∧ u = .int .i64 b ∧ Hid (a = occN (xs.take k) nm) ∧ Hid (b = occC (xs.take k) nm) ∧ Ext w wr) (fun _ _ i0 _ => n - (intOf i0).toNat)
  case atStart => exact ⟨0, 0, 0, Nat.zero_le _, rfl, rfl, rfl, rfl, rfl, Ext.refl _⟩
  case round =>
    obtain ⟨k, a, b, hk, rfl, rfl, rfl, ha, hb, hx⟩ := hrel
    have HX := hide hx
    have ol := OL.out k
    rw [← ha.out, ← hb.out] at ol
    have ol1 := ol.1; have ol2 := ol.2
    clear hx ol
    by_cases hlt : k < n
    · obtain ⟨x, hxk⟩ : ∃ x, Hid (xs[k]? = some x) := get_exP xs k (by rw [hn.out]; exact hlt)
      have x3 := H3.out x (List.mem_of_getElem? hxk.out)
      obtain ⟨bb, off, A1, c1, A2, c2, rfl, hbb, q0, q1, q2, r1, r2⟩ := (H.out.ext HX.out hB).item k x hxk.out
      have sz := HX.out.size
      obtain ⟨W1, hW1⟩ : ∃ W1, Hid (W1 = wr.alloc (.cells #[.slice A1 x.1.length c1, .slice A2 x.2.1.length c2, .bool x.2.2] 53)) := ⟨_, rfl⟩
      have X1 : Hid (Ext w W1) := by rw [hW1.out]; exact HX.out.trans (Ext.alloc _ _)
      have B1 : Hid (Blk W1 wr.heap.size #[.slice A1 x.1.length c1, .slice A2 x.2.1.length c2, .bool x.2.2] 53) := by rw [hW1.out]; exact Blk.new rfl _ _
      have R1 := hide (r1.ext (show Ext wr W1 by rw [hW1.out]; exact Ext.alloc _ _) (by omega))
      have b1 := r1.1; have b2 := r1.2.1
      have OP := hide (occP_all nm x)
      have CI : Hid (combI x = decide (1 < x.1.length)) := rfl
      clear r1 r2
      obtain ⟨m, hm⟩ : ∃ m, Hid (x.1.length = m) := ⟨_, rfl⟩
      rw [hm.out] at q0 hW1 b1 B1 x3 OP CI
      generalize x.2.1.length = m2 at *
      generalize x.2.2 = m3 at *
      have cI := B1.out.cell
      rw [hW1.out] at cI
      go_wp2
      rw [← hW1.out]
      clear hW1 q0 q1 q2 cI
      go_loopw [6, 7, 21] (fun t u i0 wq => ∃ (j a' b' : Nat), j ≤ m ∧ i0 = .int .i64 j ∧ t = .int .i64 a' ∧ u = .int .i64 b' ∧ Hid (a' = a + occP nm x j) ∧ Hid (b' = b + if combI x then occP nm x j else 0) ∧ a' ≤ a + j ∧ b' ≤ b + j ∧ Ext W1 wq) (fun _ _ i0 _ => m - (intOf i0).toNat)
      case atStart => exact ⟨0, a, b, Nat.zero_le _, rfl, rfl, rfl, by show _ = _; simp [occP], by show _ = _; simp [occP], by omega, by omega, Ext.refl _⟩
      case round =>
        obtain ⟨j, a', b', hj, rfl, rfl, rfl, ha', hb', la, lb, hx⟩ := hrel
        have HX2 := hide hx
        clear hx
        have sz1 := X1.out.size
        have cI := (B1.out.ext HX2.out).cell
        by_cases hltj : j < m
        · obtain ⟨o, hoj⟩ : ∃ o, Hid (x.1[j]? = some o) := get_exP x.1 j (by rw [hm.out]; exact hltj)
          obtain ⟨b9, off9, rfl, hb9, u0, ul⟩ := (R1.out.ext HX2.out (by omega)).str j o hoj.out
          have PS := hide (occP_succ nm hoj.out)
          have EX := EQ.out o
          cases he : (o == nm)
          · rw [he] at EX PS
            clear he
            generalize bs o = ob at *
            go_wp2
            go_roundw
            case rel => exact ⟨j + 1, a', b', by omega, by go_num, rfl, rfl, by show _ = _; rw [PS.out, ha'.out]; simp, by show _ = _; rw [PS.out, hb'.out]; simp, by omega, by omega, HX2.out⟩
            case measure => simp [intOf]; omega
          · rw [he] at EX PS
            clear he
            generalize bs o = ob at *
            have CB := hide (i.isCombined_any wr (some ⟨b9, off9, none⟩) A2 m c1 m2 c2 m3 b1 b2)
            go_wp2_with fail
            refine CB.out.mono ?_
            rintro e w5 ⟨rfl, x5⟩
            have HX3 := hide (HX2.out.trans x5)
            clear x5 CB cI
            by_cases hcm : 1 < m
            · have HC : Hid (combI x = true) := by show _ = _; rw [CI.out]; simp [hcm]
              rw [show decide (1 < m) = true from by simp [hcm]]
              clear hcm
              go_wp2
              go_roundw
              case rel => exact ⟨j + 1, a' + 1, b' + 1, by omega, by go_num, by go_num, by go_num, by show _ = _; rw [PS.out, ha'.out]; simp; omega, by show _ = _; rw [PS.out, hb'.out, HC.out]; simp; omega, by omega, by omega, HX3.out⟩
              case measure => simp [intOf]; omega
            · have HC : Hid (combI x = false) := by show _ = _; rw [CI.out]; simp [hcm]
              rw [show decide (1 < m) = false from by simp [hcm]]
              clear hcm
              go_wp2
              go_roundw
              case rel => exact ⟨j + 1, a' + 1, b', by omega, by go_num, by go_num, rfl, by show _ = _; rw [PS.out, ha'.out]; simp; omega, by show _ = _; rw [hb'.out, HC.out]; simp, by omega, by omega, HX3.out⟩
              case measure => simp [intOf]; omega
        · have ej : m = j := by omega
          subst ej
          rw [OP.out] at ha' hb'
          go_wp2
          go_roundw
          case rel => exact ⟨k + 1, a', b', by omega, by go_num, rfl, rfl, by show _ = _; rw [ha'.out, ha.out, occN_succ nm hxk.out], by show _ = _; rw [hb'.out, hb.out, occC_succ nm hxk.out], X1.out.trans HX2.out⟩
          case measure => simp [intOf]; omega
    · have ek : n = k := by omega
      subst ek
      rw [List.take_of_length_le (by rw [hn.out]; exact Nat.le_refl _)] at ha hb
      rw [hRN.out] at ha
      rw [hRC.out] at hb
      go_wp2
      refine bodyPost_ret (v := .tuple #[.int .i64 a, .int .i64 b]) (by simp [results, Tryz.results107, go_sem]) rfl ?_
      exact ⟨by rw [ha.out, hb.out], HX.out⟩
end Go.Proofs.YtiohjcadmahkgaaGreat
