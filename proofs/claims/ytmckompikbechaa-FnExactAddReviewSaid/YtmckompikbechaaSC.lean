/- NewSheet by the reference. -/
import Derived.Test.YtmckompikbechaaSB
import Derived.Test.YtmckompikbechaaGQ
import Derived.Deep.DeepCutAuto
import Derived.Deep.OwnRows
namespace Go.Proofs.Ytmckompikbechaa
open Go.RowKit Go.Sort
set_option linter.unusedVariables false
theorem LO.madeVAt {w : World} {H : Nat} (hH : w.heap.size = H) : LO kdLL 84 (w.alloc (.cells (madeCells #[.slice none 0 0] 3) 84)) (some ⟨H, 0, none⟩) 3 (List.replicate 3 []) [H] := by
  subst hH
  refine LO.made (zc := [.slice none 0 0]) ?_ (fun w => kdLL.zero w)
  have h := World.ownsRow_lit (e := 84) (base := 0) (size := 1) w (madeCells #[.slice none 0 0] 3) 3 (Nat.zero_le _) (by unfold maxLen; omega) (by simp [madeCells])
  rw [show (madeCells #[Value.slice none 0 0] 3).toList = (List.replicate 3 [Value.slice none 0 0]).flatten from made_flat #[.slice none 0 0] 3] at h
  exact h
def partV (V : List (List Int)) (k j : Nat) : List (List (List Int)) := List.replicate k V ++ V.take j :: List.replicate (2 - k) []
theorem partV_zero (V : List (List Int)) {k : Nat} (h : k < 3) : partV V k 0 = List.replicate k V ++ List.replicate (3 - k) [] := by
  unfold partV
  rw [List.take_zero, show 3 - k = (2 - k) + 1 by omega, List.replicate_succ]
theorem partV_all (V : List (List Int)) {k n : Nat} (h : k < 3) (hn : V.length ≤ n) : partV V k n = List.replicate (k + 1) V ++ List.replicate (3 - (k + 1)) [] := by
  unfold partV
  rw [List.take_of_length_le hn, show 3 - (k + 1) = 2 - k by omega, List.replicate_succ', List.append_assoc]
  rfl
theorem partV_at (V : List (List Int)) (k j : Nat) : (partV V k j)[k]? = some (V.take j) := by
  unfold partV
  rw [List.getElem?_append_right (by simp)]
  simp
theorem partV_set (V : List (List Int)) (k j : Nat) : (partV V k j).set k (V.take (j + 1)) = partV V k (j + 1) := by
  unfold partV
  rw [List.set_append_right _ _ (by simp)]
  simp
theorem partV_len (V : List (List Int)) {k j : Nat} (h : k < 3) : (partV V k j).length = 3 := by
  unfold partV
  simp
  omega
/-- Three stores into one block. -/
theorem heap_set3 {w : World} {g i : Nat} (h : i ≠ g) (u0 u1 u2 : Value) : (((w.setCell ⟨g, 0, none⟩ u0).setCell ⟨g, 1, none⟩ u1).setCell ⟨g, 2, none⟩ u2).heap[i]? = w.heap[i]? := by
  rw [Below.heap_setCell _ _ _ _ h, Below.heap_setCell _ _ _ _ h, Below.heap_setCell _ _ _ _ h]
theorem Ext.set3 {u w : World} {g : Nat} (h : Ext u w) (hg : u.heap.size ≤ g) (u0 u1 u2 : Value) : Ext u (((w.setCell ⟨g, 0, none⟩ u0).setCell ⟨g, 1, none⟩ u1).setCell ⟨g, 2, none⟩ u2) := ((h.setC hg u0).setC hg u1).setC hg u2
theorem Blk.set3 {w : World} {g : Nat} {a b c : Value} {t : TypeId} (h : Blk w g #[a, b, c] t) (u0 u1 u2 : Value) : Blk (((w.setCell ⟨g, 0, none⟩ u0).setCell ⟨g, 1, none⟩ u1).setCell ⟨g, 2, none⟩ u2) g #[u0, u1, u2] t := ((h.set 0 u0).set 1 u1).set 2 u2

set_option maxRecDepth 100000 in
set_option maxHeartbeats 4000000 in
theorem s.caNew_m (w : World) (A : Option Addr) (c B : Nat) (xs : List ItD) (hl : LR kdItem w B A c xs) (hB : B ≤ w.heap.size) (hc : cleanB xs = true) :
    Calls Try.prog 54 #[.slice A xs.length c] w fun e w' => ∃ A3 c3 A5 c5 f, e = .returned (.agg #[.slice A3 xs.length c3, .slice A5 3 c5, .slice none 0 0]) ∧ kdSh.own w' [.slice A3 xs.length c3, .slice A5 3 c5, .slice none 0 0] (xs, List.replicate 3 (votesN xs), []) f ∧ (∀ i ∈ f, w.heap.size ≤ i) ∧ Ext w w' := by
  have IB := itemsB_wt (cleanB_items hc)
  have HL := hide hl
  have a1 := hl.1; have a2 := hl.2.1
  have ITO := hide (fun (wq : World) (xq : Ext w wq) => s.itOwn_any wq A c B xs (hl.ext xq hB) (Nat.le_trans hB xq.size) (by have := IB.2; omega))
  have n14 := IB.1
  obtain ⟨n, hn⟩ : ∃ n, Hid (xs.length = n) := ⟨_, rfl⟩
  rw [hn.out] at a1 n14 ITO ⊢
  have N3 := hide (fun (k : Nat) (x : ItD) (h : xs[k]? = some x) => show x.1.length ≤ 3 by
    have h1 := cleanB_items hc
    simp only [itemsB, Bool.and_eq_true, List.all_eq_true] at h1
    have := itemB_ok (h1.1 x (List.mem_of_getElem? h)); omega)
  clear hl hc IB
  obtain ⟨W0, hW0⟩ : ∃ W0, Hid (W0 = w.alloc (.cells #[.slice none 0 0, .slice none 0 0, .slice none 0 0] 28)) := ⟨_, rfl⟩
  have X0 : Hid (Ext w W0) := by rw [hW0.out]; exact Ext.alloc w _
  have B0 : Hid (Blk W0 w.heap.size #[.slice none 0 0, .slice none 0 0, .slice none 0 0] 28) := by rw [hW0.out]; exact Blk.new rfl _ _
  have MKR := hide (fun w => run_make_row' (P := Try.prog) 25 84 (.slice none 0 0) 24 Try.underlying25 info_rows rfl .i64 .i64 3 (by omega) (by omega) w)
  have mkr := MKR.out
  simp only [Int.cast_ofNat_Int] at mkr
  go_enter Try.func54, Try.ntmps54
  go_upto_region 1 with fail
  rw [← hW0.out]
  clear hW0
  go_cut [3] (fun s3 wx => ∃ (gb g5 : Nat) (A3 : Option Addr) (c3 : Nat) (fp3 : List Nat), s3 = .pointer (some ⟨gb, 0, none⟩) ∧ Blk wx gb #[.slice A3 n c3, .slice (some ⟨g5, 0, none⟩) 3 3, .slice none 0 0] 28 ∧ LO kdItem 70 wx A3 c3 xs fp3 ∧ LO kdLL 84 wx (some ⟨g5, 0, none⟩) 3 (List.replicate 3 []) [g5] ∧ (∀ i ∈ fp3, W0.heap.size ≤ i ∧ i ≠ gb ∧ i ≠ g5) ∧ gb ≠ g5 ∧ W0.heap.size ≤ gb ∧ W0.heap.size ≤ g5 ∧ Ext W0 wx)
  case first =>
    go_region_held3 (fun w' => True) (exact trivial)
      ((go_at_call 115; refine (ITO.out _ (X0.out.trans (by repeat (first | with_reducible exact Ext.drew _ | with_reducible exact Ext.refl _ | with_reducible refine Ext.trans ?_ (Ext.alloc _ _) | with_reducible refine Ext.trans ?_ (Ext.drew _))))).mono ?_; rintro e w3 ⟨A3, c3, fp3, rfl, hl3, hf3, x3⟩; have hz3 := x3.size; (try simp at hz3); have h9 := (by (first | with_reducible exact Ext.bcellD x3 | exact Ext.bcell x3)); have hc3 := h9.1; have hf3' := h9.2; clear h9; (try (have : W0.heap.size < w3.heap.size := by omega)); (try (have : W0.heap.size + 1 < w3.heap.size := by omega)); (try (have : W0.heap.size < w3.heap.size + 1 := by omega)); (try (have : W0.heap.size + 1 < w3.heap.size + 1 := by omega)); (try (have : W0.heap.size ≠ w3.heap.size := by omega)); (try (have : W0.heap.size + 1 ≠ w3.heap.size := by omega));  have Z3 := hide x3; have LO3 := hide hl3; have F3 := hide hf3; clear hl3 hf3 x3))
    all_goals
      have LT := LO3.out.lt
      have FF := F3.out
      simp at FF
      go_wp2_with fail
      go_meet
    · exact ⟨w3.heap.size + 1, w3.heap.size, A3, c3, fp3, rfl, Blk.new (by simp) _ _, (LO3.out.ext (Ext.alloc _ _)).ext (Ext.alloc _ _), (LO.madeVAt rfl).ext (Ext.alloc _ _), fun i hi => by have := LT i hi; have := FF i hi; omega, by omega, by omega, by omega, (((Ext.drew W0).trans Z3.out).trans (Ext.alloc _ _)).trans (Ext.alloc _ _)⟩
    · exact ⟨w3.heap.size, w3.heap.size + 1, A3, c3, fp3, rfl, (Blk.new rfl _ _).alloc _, (LO3.out.ext (Ext.alloc _ _)).ext (Ext.alloc _ _), LO.madeVAt (by simp), fun i hi => by have := LT i hi; have := FF i hi; omega, by omega, by omega, by omega, (((Ext.drew W0).trans Z3.out).trans (Ext.alloc _ _)).trans (Ext.alloc _ _)⟩
    · exact ⟨w3.heap.size, W0.heap.size, A3, c3, fp3, rfl, Blk.new rfl _ _, LO3.out.ext (Ext.alloc _ _), ((LO.madeVAt rfl).ext ((Ext.drew _).trans Z3.out)).ext (Ext.alloc _ _), fun i hi => by have := LT i hi; have := FF i hi; omega, by omega, by omega, by omega, (((Ext.alloc W0 _).trans ((Ext.drew _).trans Z3.out))).trans (Ext.alloc _ _)⟩
    · exact ⟨W0.heap.size + 1, W0.heap.size, A3, c3, fp3, rfl, ((Blk.new (w := W0.alloc _) (by simp) _ _).ext ((Ext.drew _).trans Z3.out)).set3 _ _ _, LO3.out.keep (fun i hi => heap_set3 (by have := FF i hi; omega) _ _ _), (((LO.madeVAt rfl).ext (Ext.alloc _ _)).ext ((Ext.drew _).trans Z3.out)).keep (fun i hi => heap_set3 (by simp at hi; omega) _ _ _), fun i hi => by have := LT i hi; have := FF i hi; omega, by omega, by omega, by omega, ((((Ext.alloc W0 _).trans (Ext.alloc _ _)).trans ((Ext.drew _).trans Z3.out))).set3 (by omega) _ _ _⟩
    · exact ⟨W0.heap.size, w3.heap.size, A3, c3, fp3, rfl, (((Blk.new (w := W0) rfl _ _).ext ((Ext.drew _).trans Z3.out)).set3 _ _ _).alloc _, (LO3.out.keep (fun i hi => heap_set3 (by have := FF i hi; omega) _ _ _)).ext (Ext.alloc _ _), LO.madeVAt (by simp [World.setCell]), fun i hi => by have := LT i hi; have := FF i hi; omega, by omega, by omega, by omega, ((((Ext.alloc W0 _).trans ((Ext.drew _).trans Z3.out))).set3 (by omega) _ _ _).trans (Ext.alloc _ _)⟩
    · exact ⟨W0.heap.size, W0.heap.size + 1, A3, c3, fp3, rfl, (((Blk.new (w := W0) rfl _ _).alloc _).ext ((Ext.drew _).trans Z3.out)).set3 _ _ _, LO3.out.keep (fun i hi => heap_set3 (by have := FF i hi; omega) _ _ _), ((LO.madeVAt (by simp)).ext ((Ext.drew _).trans Z3.out)).keep (fun i hi => heap_set3 (by simp at hi; omega) _ _ _), fun i hi => by have := LT i hi; have := FF i hi; omega, by omega, by omega, by omega, ((((Ext.alloc W0 _).trans (Ext.alloc _ _)).trans ((Ext.drew _).trans Z3.out))).set3 (by omega) _ _ _⟩
  case rest =>
    obtain ⟨gb, g5, A3, c3, fp3, rfl, hbl, hl3, hl5, hf3, hbg, hzb, hz5, hx⟩ := hcut
    have SB := hide hbl
    have LO3 := hide hl3
    have V0 := hide hl5
    have F3 := hide hf3
    have XC := hide hx
    have hx9 := hx
    clear hbl hl3 hl5 hf3 hx
    have zc := hx9.size
    clear hx9
    have cS := SB.out.cell
    have BR := hide (B0.out.ext XC.out)
    have T0 := hide (TchF.refl [g5] wc)
    have V0' : Hid (LO kdLL 84 wc (some ⟨g5, 0, none⟩) 3 (List.replicate 0 (votesN xs) ++ List.replicate (3 - 0) []) [g5]) := V0.out
    have gbl := SB.out.lt
    have g5l := V0.out.lt g5 (by simp)
    have LT3 := hide LO3.out.lt
    go_wp2
    clear cS
    go_loopw [15] (fun i0 wr => ∃ (k : Nat) (fpv : List Nat), k ≤ 3 ∧ i0 = .int .i64 k ∧ LO kdLL 84 wr (some ⟨g5, 0, none⟩) 3 (List.replicate k (votesN xs) ++ List.replicate (3 - k) []) fpv ∧ (∀ i ∈ fpv, i = g5 ∨ wc.heap.size ≤ i) ∧ TchF [g5] wc wr) (fun i0 _ => 3 - (intOf i0).toNat)
    case atStart => exact ⟨0, _, Nat.zero_le _, rfl, V0'.out, fun i hi => by simp at hi; exact .inl hi, T0.out⟩
    case round =>
      obtain ⟨k, fpv, hk, rfl, hv, hfv, ht⟩ := hrel
      clear V0 V0' T0
      have HV := hide hv
      have FV := hide hfv
      have HT := hide ht
      clear hv hfv ht
      obtain ⟨wo, rfl⟩ : ∃ wo : World, wo = wr := ⟨_, rfl⟩
      have zo := HT.out.size
      by_cases hlt : k < 3
      · rw [← partV_zero (votesN xs) hlt] at HV
        have i3 : (k : Int) < 3 := by omega
        go_wp2
        go_loopw [20] (fun i0 wr => ∃ (j : Nat) (fpv : List Nat), j ≤ n ∧ i0 = .int .i64 j ∧ LO kdLL 84 wr (some ⟨g5, 0, none⟩) 3 (partV (votesN xs) k j) fpv ∧ (∀ i ∈ fpv, i = g5 ∨ wc.heap.size ≤ i) ∧ TchF [g5] wc wr) (fun i0 _ => n - (intOf i0).toNat)
        case atStart => exact ⟨0, fpv, Nat.zero_le _, rfl, HV.out, FV.out, HT.out⟩
        case round =>
          obtain ⟨j, fpw, hj, rfl, hv, hfv, ht⟩ := hrel
          clear HV FV HT
          have HV := hide hv
          have FV := hide hfv
          have HT := hide ht
          clear hv hfv ht
          obtain ⟨w5, rfl⟩ : ∃ w5 : World, w5 = wr := ⟨_, rfl⟩
          have z5 := HT.out.size
          have XT : Hid (Ext W0 w5) := XC.out.tchF HT.out (fun i hi => by simp at hi; omega)
          by_cases hlj : j < n
          · obtain ⟨x, hxj⟩ : ∃ x, Hid (xs[j]? = some x) := get_exN xs j (by rw [hn.out]; exact hlj)
            obtain ⟨bb, off, A1, c1, A2, c2, rfl, hb, q0, q1, q2, -, -⟩ := (HL.out.ext (X0.out.trans XT.out) hB).item j x hxj.out
            have HK : Hid ((votesN xs).take (j + 1) = (votesN xs).take j ++ [List.replicate x.1.length (-1)]) := by
              obtain ⟨hj', e⟩ := List.getElem?_eq_some_iff.1 hxj.out
              show _ = _
              rw [List.take_succ_eq_append_getElem (by simpa [votesN] using hj')]
              simp [votesN, e]
            have n3 := N3.out j x hxj.out
            have ll : ((votesN xs).take j).length = j := by rw [List.length_take]; simp [votesN]; have := hn.out; omega
            have HLn := hide ll
            clear ll
            obtain ⟨W6, hW6⟩ : ∃ W6, Hid (W6 = w5.alloc (.cells #[.slice A1 x.1.length c1, .slice A2 x.2.1.length c2, .bool x.2.2] 70)) := ⟨_, rfl⟩
            have X6 : Hid (Ext w5 W6) := by rw [hW6.out]; exact Ext.alloc _ _
            have I6 : Hid (Blk W6 w5.heap.size #[.slice A1 x.1.length c1, .slice A2 x.2.1.length c2, .bool x.2.2] 70) := by rw [hW6.out]; exact Blk.new rfl _ _
            have O6 : Hid (OwnI 3 W6 W6.heap.size none 0 0 (List.replicate 0 (-1))) := OwnI.nil
            have Y6 := hide (Ext.refl W6)
            obtain ⟨m, hm⟩ : ∃ m, Hid (x.1.length = m) := ⟨_, rfl⟩
            rw [hm.out] at HK n3 q0 hW6 I6
            generalize x.2.1.length = m2 at *
            generalize x.2.2 = m3 at *
            have ij : (j : Int) < n := by omega
            have cI := I6.out.cell
            rw [hW6.out] at cI
            go_wp2
            rw [← hW6.out]
            clear hW6 q0 q1 q2 cI
            go_loopw [7, 27] (fun o i0 wr => ∃ (q : Nat) (A8 : Option Addr) (c8 : Nat), q ≤ m ∧ i0 = .int .i64 q ∧ o = .slice A8 q c8 ∧ OwnI 3 wr W6.heap.size A8 q c8 (List.replicate q (-1)) ∧ Ext W6 wr) (fun _ i0 _ => m - (intOf i0).toNat)
            case atStart => exact ⟨0, _, _, Nat.zero_le _, rfl, rfl, O6.out, Y6.out⟩
            case round =>
              obtain ⟨q, A8, c8, hq, rfl, rfl, hown, hx⟩ := hrel
              clear O6 Y6
              have O8 := hide hown
              have Y8 := hide hx
              have oe1 := hown.capn; have oe2 := hown.capm
              clear hown hx
              have z8 := Y8.out.size
              by_cases hlq : q < m
              · obtain ⟨L, hL⟩ : ∃ L, Hid (List.replicate q (-1 : Int) = L) := ⟨_, rfl⟩
                rw [hL.out] at O8
                go_wp2_with (at_builtin; refine wpList_append_sl rfl (.tmp 29) (.tmp 30) rfl elem_int rfl rfl (lo := W6.heap.size) (Own.alloc O8.out (.cells #[.int .i64 (-1)] 3)) (Sl.one wr (.int .i64 (-1)) 3) (one_int _) ?c1 ?c2 ?c3 ?_)
                case c1 => omega
                case c2 => omega
                case c3 => simp <;> omega
                intro A9 c9 w9 hap
                have Y9 := hide (hap.ext (Y8.out.trans (Ext.alloc wr _)) (Own.fromLo O8.out))
                have HAP := hide hap
                clear hap
                go_wp2
                go_roundw
                case rel => exact ⟨q + 1, A9, c9, by omega, by go_num, rfl, by rw [List.replicate_succ', hL.out]; exact own_snocL HAP.out.own, Y9.out⟩
                case measure => simp [intOf]; omega
              · have eq : m = q := by omega
                subst eq
                have Z6 := hide (X6.out.trans Y8.out)
                have z6 := X6.out.size
                obtain ⟨g', cs, fk, hat⟩ := (HV.out.ext Z6.out).at_ k _ (partV_at (votesN xs) k j)
                have hga := hat.addr
                simp only [Option.some.injEq, Addr.mk.injEq, and_true] at hga
                subst hga
                obtain ⟨Ak, ck, rfl, hlk⟩ := hat.own
                have cK := hat.cell 0 _ rfl
                rw [show k * kdLL.size + 0 = k from by show k * 1 + 0 = k; omega, HLn.out] at cK
                have fK := hat.free k
                have ocp := hlk.cap
                rw [HLn.out] at ocp
                have oc1 := ocp.1; have oc2 := ocp.2
                have SBr := hide ((SB.out.tchF HT.out (by simp; omega)).ext Z6.out)
                have LVt := hide HV.out.lt
                have HAT := hide hat
                have FK := hide hat.sub
                have LO1 := hide ((hlk.ext (Ext.alloc wr (.cells #[.slice A8 m c8] 51))).ext (Ext.drew _))
                have KO1 := hide (kdL.own_ext (kdL.own_ext (own_rowL O8.out) (Ext.alloc wr (.cells #[.slice A8 m c8] 51))) (Ext.drew _))
                have FL := hide (OwnI.fpLo O8.out)
                have D1 : Hid (∀ i ∈ (A8.map (·.block)).toList, i ∉ fk) := fun i hi hm => by
                  have h1 := FL.out i hi
                  have h2 := LVt.out i (FK.out i hm).1
                  omega
                have D2 : Hid (∀ j u, [Value.slice A8 m c8][j]? = some u → ((wr.alloc (.cells #[.slice A8 m c8] 51)).drew).cell? ⟨wr.heap.size, 0 + j, none⟩ = some u) := fun q u hu => by
                  cases q with
                  | zero => simp at hu; subst hu; exact (cellN (w := wr) rfl #[.slice A8 m c8] 51 0).trans rfl
                  | succ q => simp at hu
                have b1 : (j + 1) * 24 ≤ 140737488355328 := by omega
                have b2 : j + 1 ≤ 4611686018427387904 := by omega
                clear hat hlk ocp
                have cS := SBr.out.cell
                have g5w : g5 < wr.heap.size := by omega
                have g5n : g5 ≠ wr.heap.size := by omega
                have gbw : gb < wr.heap.size := by omega
                have gbn : gb ≠ wr.heap.size := by omega
                go_wp2
                go_region_law ((refine step_append_LOI (K := kdL) (by rfl) (.tmp 40) (.tmp 42) (by rfl) elemN_row (by decide) HLn.out.symm (by rfl) (by rfl) LO1.out KO1.out D1.out D2.out b1 b2 ?_; intro A10 c10 w10 fp10 hap; have HA := hide hap; have E10 : w10.heap[g5]? = wr.heap[g5]? := (hap.tch.block g5 (by simp [World.drew]; omega) (fun hm => (FK.out g5 hm).2 rfl)).trans (Below.heap_alloc wr _ g5 (by omega)); have c10_ : w10.cell? ⟨g5, k, none⟩ = some (.slice Ak j ck) := (World.cell?_of_block E10).trans cK; have f10_ : w10.frozen? ⟨g5, k, none⟩ = false := (World.frozen?_of_block (w := wr) E10).trans fK; have cS9 := ((((SBr.out.alloc (.cells #[.slice A8 m c8] 51)).ext (Ext.drew _)).tchF hap.tch (fun hm => by rcases FV.out gb (FK.out gb hm).1 with h | h <;> omega))).cell; clear hap E10))
                all_goals
                  clear cS cS9 c10_ f10_
                  obtain ⟨fpN, hN, hsN⟩ := HAT.out.store w10 [.slice A10 (j + 1) c10] ((votesN xs).take (j + 1)) fp10 (by rw [HK.out]; exact own_rowLL HA.out.own (by rw [List.length_append, HLn.out]; rfl)) ((TchF.of_ext ((Ext.alloc wr _).trans (Ext.drew _))).trans HA.out.tch) (fun i hi => by
                    rcases HA.out.sub i hi with h | h | h
                    · exact .inl h
                    · exact .inr (fun hm => by have := FL.out i h; have := LVt.out i hm; omega)
                    · refine .inr (fun hm => ?_)
                      have := LVt.out i hm
                      rw [h] at this
                      simp [World.drew] at this
                      omega)
                  rw [one_cells w10 g5 k _ kdLL.size rfl, partV_set] at hN
                  have HN := hide hN
                  have FN : Hid (∀ i ∈ fpN, i = g5 ∨ wc.heap.size ≤ i) := fun i hi => by
                    rcases hsN i hi with h | h
                    · exact FV.out i h
                    · rcases HA.out.sub i h with h | h | h
                      · exact FV.out i (FK.out i h).1
                      · have := FL.out i h; exact .inr (by omega)
                      · refine .inr ?_
                        rw [h]
                        simp [World.drew]
                        omega
                  have TN : Hid (TchF [g5] wc (w10.setCell ⟨g5, k, none⟩ (.slice A10 (j + 1) c10))) := (((HT.out.trans (TchF.of_ext Z6.out)).trans (TchF.of_ext ((Ext.alloc wr (.cells #[.slice A8 m c8] 51)).trans (Ext.drew _)))).trans_new HA.out.tch (fun i hi => by rcases FV.out i (FK.out i hi).1 with h | h; exact .inl (by simp [h]); exact .inr h)).trans (TchF.set1 _ _ _ (by simp))
                  clear hN hsN
                  generalize w10.setCell ⟨g5, k, none⟩ (.slice A10 (j + 1) c10) = w11 at *
                  go_wp2
                  go_roundw
                  case rel => exact ⟨j + 1, fpN, by omega, by go_num, HN.out, FN.out, TN.out⟩
                  case measure => simp [intOf]; omega
          · have ej : n = j := by omega
            subst ej
            rw [partV_all (votesN xs) hlt (by simp [votesN]; rw [hn.out]; exact Nat.le_refl _)] at HV
            go_wp2
            go_roundw
            case rel => exact ⟨k + 1, fpw, by omega, by go_num, HV.out, FV.out, HT.out⟩
            case measure => simp [intOf]; omega
      · have ek : k = 3 := by omega
        subst ek
        have HV3 : Hid (LO kdLL 84 wo (some ⟨g5, 0, none⟩) 3 (List.replicate 3 (votesN xs)) fpv) := by
          have h := HV.out
          rwa [show (3 : Nat) - 3 = 0 from rfl, List.replicate_zero, List.append_nil] at h
        have BF := hide (BR.out.tchF HT.out (by have := B0.out.lt; simp; omega))
        have cB := BF.out.cell; have fB := BF.out.free
        have SF := hide (SB.out.tchF HT.out (by simp; omega))
        have cS := SF.out.cell
        have XF : Hid (Ext W0 wo) := XC.out.tchF HT.out (fun i hi => by simp at hi; omega)
        go_wp2
        refine bodyPost_ret (v := .agg #[.slice A3 n c3, .slice (some ⟨g5, 0, none⟩) 3 3, .slice none 0 0]) (by simp [results, Try.results54, go_sem, cB]) rfl ?_
        have z0 := X0.out.size
        have zB := B0.out.lt
        have l3 := LO3.out.keep (w' := wo) (fun i hi => HT.out.block i (LT3.out i hi) (by have := F3.out i hi; simp; omega))
        have ho := kdSh.mkOwn (d := (xs, List.replicate 3 (votesN xs), [])) (l3.keep (fun i hi => heap_set3 (g := w.heap.size) (by have := F3.out i hi; omega) (.slice A3 n c3) (.slice (some ⟨g5, 0, none⟩) 3 3) (.slice none 0 0))) (HV3.out.keep (fun i hi => heap_set3 (g := w.heap.size) (by rcases FV.out i hi with h | h <;> omega) (.slice A3 n c3) (.slice (some ⟨g5, 0, none⟩) 3 3) (.slice none 0 0))) (LO.none_ (K := kdRv) (e := 47)) (fun i hi hm => by have := F3.out i hi; have := LT3.out i hi; rcases FV.out i hm with h | h <;> omega) (by simp) (by simp)
        simp only [hn.out, List.length_replicate, List.length_nil] at ho
        refine ⟨A3, c3, _, 3, _, rfl, ho, fun i hi => ?_, Ext.set3 (X0.out.trans XF.out) (Nat.le_refl _) _ _ _⟩
        rcases List.mem_append.1 hi with h | h
        · have := F3.out i h; omega
        · rcases List.mem_append.1 h with h | h
          · rcases FV.out i h with h | h <;> omega
          · simp at h

set_option maxRecDepth 100000 in
set_option maxHeartbeats 2000000 in
theorem s.NewSheet_law (w : World) (v : Value) (xs : List ItD) (hx : kIt.rd w v xs) (hok' : kIt.ok xs) :
    Calls Try.prog 14 #[v] w fun e w' => ∃ v0, e = .returned (.tuple #[v0, .bool (newF xs).2]) ∧ kSm.fr w' w.heap.size w'.heap.size v0 (newF xs).1 ∧ kSm.ok (newF xs).1 ∧ Ext w w' := by
  obtain ⟨A, c, rfl, hl⟩ := kIt_open hx
  have hw : wtL kdItem xs ≤ 1048576 := hok'
  have OKF := hide (newF_ok xs)
  have HL := hide hl
  have a1 := hl.1; have a2 := hl.2.1
  obtain ⟨F, hF⟩ : ∃ F, Hid (newF xs = F) := ⟨_, rfl⟩
  rw [hF.out] at OKF ⊢
  obtain ⟨W0, hW0⟩ : ∃ W0, Hid (W0 = w.alloc (.cells #[.slice none 0 0, .slice none 0 0, .slice none 0 0] 28)) := ⟨_, rfl⟩
  have X0 : Hid (Ext w W0) := by rw [hW0.out]; exact Ext.alloc w _
  have B0 : Hid (Blk W0 w.heap.size #[.slice none 0 0, .slice none 0 0, .slice none 0 0] 28) := by rw [hW0.out]; exact Blk.new rfl _ _
  have UM := hide (s.caClean_any W0 A c w.heap.size xs (hl.ext X0.out (Nat.le_refl _)) X0.out.size hw)
  have CN := hide (fun (wq : World) (xq : Ext w wq) => s.caNew_m wq A c w.heap.size xs (hl.ext xq (Nat.le_refl _)) xq.size)
  clear hx hl hok' hw
  obtain ⟨n, hn⟩ : ∃ n, Hid (xs.length = n) := ⟨_, rfl⟩
  rw [hn.out] at a1 UM CN ⊢
  go_enter Try.func14, Try.ntmps14
  go_wp2_with fail
  rw [← hW0.out]
  clear hW0
  refine UM.out.mono ?_
  rintro e w1 ⟨rfl, x1⟩
  have X1 := hide (X0.out.trans x1)
  have B1 := hide (B0.out.ext x1)
  clear x1 UM
  have cB := B1.out.cell; have fB := B1.out.free
  cases hc : cleanB xs
  · have HF : Hid (F = (noSheet, false)) := by show _ = _; rw [← hF.out]; simp [newF, hc]
    clear hc
    go_wp2
    refine bodyPost_ret (v := .tuple #[.agg #[.slice none 0 0, .slice none 0 0, .slice none 0 0], .bool false]) (by simp [results, Try.results14, go_sem, cB]) rfl ?_
    have hf := HF.out
    subst hf
    exact ⟨_, rfl, kSm_none _ _ _, OKF.out, Below.setCell (Below.setCell (Below.setCell X1.out (by simp) _) (by simp) _) (by simp) _⟩
  have HF : Hid (F = ((xs, List.replicate 3 (votesN xs), []), true)) := by show _ = _; rw [← hF.out]; simp [newF, hc]
  have CQ := hide (CN.out w1 X1.out hc)
  clear hc hF CN
  go_wp2_with fail
  refine CQ.out.mono ?_
  rintro e w3 ⟨A3, c3, A5, c5, fp, rfl, ho, hf, x3⟩
  have zB := B0.out.lt
  have z1 := X1.out.size
  have zb1 := B1.out.lt
  have X3 := hide (X1.out.trans x3)
  have B3 := hide (B1.out.ext x3)
  clear cB fB
  have cB := B3.out.cell; have fB := B3.out.free
  have HO := hide ho
  have FF := hide hf
  clear ho hf x3 CQ
  go_wp2
  refine bodyPost_ret (v := .tuple #[.agg #[.slice A3 n c3, .slice A5 3 c5, .slice none 0 0], .bool true]) (by simp [results, Try.results14, go_sem, cB]) rfl ?_
  have hf := HF.out
  subst hf
  have ho2 := kdSh.own_keep HO.out (fun i hi => heap_set3 (g := w.heap.size) (by have := FF.out i hi; omega) (.slice A3 n c3) (.slice A5 3 c5) (.slice none 0 0))
  have ho3 : kdSh.own (((w3.setCell ⟨w.heap.size, 0, none⟩ (.slice A3 n c3)).setCell ⟨w.heap.size, 1, none⟩ (.slice A5 3 c5)).setCell ⟨w.heap.size, 2, none⟩ (.slice none 0 0)) [.slice A3 (xs, List.replicate 3 (votesN xs), ([] : List RvD)).1.length c3, .slice A5 (xs, List.replicate 3 (votesN xs), ([] : List RvD)).2.1.length c5, .slice none (xs, List.replicate 3 (votesN xs), ([] : List RvD)).2.2.length 0] (xs, List.replicate 3 (votesN xs), []) fp := by
    simp only [hn.out, List.length_replicate, List.length_nil]
    exact ho2
  have hfr := kSm_fr (lo := w.heap.size) ho3 (fun i hi => by have := FF.out i hi; omega)
  simp only [hn.out, List.length_replicate, List.length_nil] at hfr
  exact ⟨_, rfl, hfr, OKF.out, Ext.set3 X3.out (Nat.le_refl _) _ _ _⟩
end Go.Proofs.Ytmckompikbechaa
