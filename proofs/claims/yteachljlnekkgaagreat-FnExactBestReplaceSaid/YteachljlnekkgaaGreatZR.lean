/- BestReplace. -/
import Derived.Test.YteachljlnekkgaaGreatZQ
namespace Go.Proofs.YteachljlnekkgaaGreat
open Go.RowKit Go.Sort
set_option linter.unusedVariables false

abbrev BrS := Int × Int × Int
def brStep (d : CoD) (xs : List ItD) (k : Nat) (s : BrS) (i : Nat) : BrS := if (gainR d xs k (d.1.getD i noEl).1).2 && decide (s.2.2 < (gainR d xs k (d.1.getD i noEl).1).1) then ((k : Int), (i : Int), (gainR d xs k (d.1.getD i noEl).1).1) else s
def brRow (d : CoD) (xs : List ItD) (k : Nat) (s : BrS) (m : Nat) : BrS := (List.range m).foldl (brStep d xs k) s
def brAll (d : CoD) (xs : List ItD) (k : Nat) : BrS := (List.range k).foldl (fun s k => brRow d xs k s d.1.length) (0, 0, 0)
theorem brRow_zero (d : CoD) (xs : List ItD) (k : Nat) (s : BrS) : brRow d xs k s 0 = s := rfl
theorem brRow_succ (d : CoD) (xs : List ItD) (k : Nat) (s : BrS) (m : Nat) : brRow d xs k s (m + 1) = brStep d xs k (brRow d xs k s m) m := by
  unfold brRow; rw [List.range_succ, List.foldl_append]; rfl
theorem brAll_succ (d : CoD) (xs : List ItD) (k : Nat) : brAll d xs (k + 1) = brRow d xs k (brAll d xs k) d.1.length := by
  unfold brAll; rw [List.range_succ, List.foldl_append]; rfl
def BrOk (s : BrS) : Prop := 0 ≤ s.2.2 ∧ (s.2.2 = 0 → s = (0, 0, 0))
theorem brStep_ok {d : CoD} {xs : List ItD} {k : Nat} {s : BrS} (h : BrOk s) (i : Nat) : BrOk (brStep d xs k s i) := by
  unfold brStep
  split
  · rename_i hc
    simp only [Bool.and_eq_true, decide_eq_true_eq] at hc
    have := h.1
    exact ⟨by show 0 ≤ (gainR d xs k (d.1.getD i noEl).1).1; omega, fun e => by have e : (gainR d xs k (d.1.getD i noEl).1).1 = 0 := e; omega⟩
  · exact h
theorem brRow_ok {d : CoD} {xs : List ItD} {k : Nat} {s : BrS} (h : BrOk s) (m : Nat) : BrOk (brRow d xs k s m) := by
  induction m with
  | zero => exact h
  | succ m ih => rw [brRow_succ]; exact brStep_ok ih m
theorem brAll_ok (d : CoD) (xs : List ItD) (k : Nat) : BrOk (brAll d xs k) := by
  induction k with
  | zero => exact ⟨Int.le_refl _, fun _ => rfl⟩
  | succ k ih => rw [brAll_succ]; exact brRow_ok ih _
def bestReplF (d : CoD) (xs : List ItD) : Int × Int × Int × Bool := if progB d xs then ((brAll d xs xs.length).1, (brAll d xs xs.length).2.1, (brAll d xs xs.length).2.2, decide (0 < (brAll d xs xs.length).2.2)) else (0, 0, 0, false)
theorem brStep_yes {d : CoD} {xs : List ItD} {k : Nat} {a b m g : Int} {i : Nat} (h : gainR d xs k (d.1.getD i noEl).1 = (g, true)) (hl : m < g) : brStep d xs k (a, b, m) i = ((k : Int), (i : Int), g) := by
  unfold brStep; rw [h, if_pos (by simpa using hl)]
theorem brStep_no {d : CoD} {xs : List ItD} {k : Nat} {a b m g : Int} {q : Bool} {i : Nat} (h : gainR d xs k (d.1.getD i noEl).1 = (g, q)) (hl : q = false ∨ ¬ m < g) : brStep d xs k (a, b, m) i = (a, b, m) := by
  unfold brStep
  rw [h, if_neg]
  rcases hl with rfl | hl
  · simp
  · simp; omega
theorem gainF_R {d : CoD} {xs : List ItD} {k : Nat} (nm : List UInt8) (hp : progB d xs = true) (hk : k < xs.length) : gainF d xs (k : Int) nm = gainR d xs k nm := by
  unfold gainF gainR
  rw [hp, show inB 0 ((xs.length : Int) - 1) (k : Int) = true from by simp [inB]; omega, Int.toNat_natCast]
  rfl

set_option maxRecDepth 100000 in
set_option maxHeartbeats 4000000 in
theorem i.BestReplace_law (w : World) (v v1 : Value) (d : CoD) (xs : List ItD) (h : kC.rd w v d) (hok : kC.ok d) (hx : kIt.rd w v1 xs) (hox : kIt.ok xs) :
    Calls Tryz.prog 15 #[v, v1] w fun e w' => e = .returned (.tuple #[.int .i64 (bestReplF d xs).1, .int .i64 (bestReplF d xs).2.1, .int .i64 (bestReplF d xs).2.2.1, .bool (bestReplF d xs).2.2.2]) ∧ Ext w w' := by
  obtain ⟨Ac, cc, Al, cl, rfl, hle, _⟩ := kC.lr h
  obtain ⟨nc, NC⟩ : ∃ z, Hid (d.1.length = z) := ⟨_, rfl⟩
  obtain ⟨nl, NL⟩ : ∃ z, Hid (d.2.1.length = z) := ⟨_, rfl⟩
  obtain ⟨rr, RN⟩ : ∃ z, Hid (d.2.2.1 = z) := ⟨_, rfl⟩
  obtain ⟨b, BN⟩ : ∃ z, Hid (d.2.2.2.1 = z) := ⟨_, rfl⟩
  obtain ⟨p, PN⟩ : ∃ z, Hid (d.2.2.2.2.1 = z) := ⟨_, rfl⟩
  obtain ⟨f, FN⟩ : ∃ z, Hid (d.2.2.2.2.2 = z) := ⟨_, rfl⟩
  rw [NC.out, NL.out, RN.out, BN.out, PN.out, FN.out] at h ⊢
  have HXI := hide hx
  obtain ⟨A, c, rfl, hl⟩ := kIt.lr hx
  have hw : wtL kdItem xs ≤ 1048576 := hox
  have hlen := Nat.le_trans (wtL_len kdItem xs) hw
  have HR := hide h
  have HL := hide hl
  have HLE := hide hle
  have a1 := hl.1; have a2 := hl.2.1
  obtain ⟨W0, hW0⟩ : ∃ W0, Hid (W0 = w.alloc (.cells #[.slice Ac nc cc, .slice Al nl cl, .int .i64 rr, .int .i64 b, .int .i64 p, .int .i64 f] 33)) := ⟨_, rfl⟩
  have X0 : Hid (Ext w W0) := by rw [hW0.out]; exact Ext.alloc w _
  have B0 : Hid (Blk W0 w.heap.size #[.slice Ac nc cc, .slice Al nl cl, .int .i64 rr, .int .i64 b, .int .i64 p, .int .i64 f] 33) := by rw [hW0.out]; exact Blk.new rfl _ _
  have PG := hide (i.isProgramme_m W0 _ d A c w.heap.size xs (kC.rd_ext h X0.out) hok (hl.ext X0.out (Nat.le_refl _)) X0.out.size hw)
  have RG := hide (fun (wq : World) (xq : Ext w wq) (hp : progB d xs = true) (j : Nat) (hj : j < xs.length) (x : ElD) (hx : nameB x.1 = true) => i.replaceGain_m wq _ d A c w.heap.size xs j x (kC.rd_ext HR.out xq) hok (HL.out.ext xq (Nat.le_refl _)) xq.size hp hj hx)
  have BO := hide (brAll_ok d xs xs.length)
  have GF : Hid (bestReplF d xs = if progB d xs then ((brAll d xs xs.length).1, (brAll d xs xs.length).2.1, (brAll d xs xs.length).2.2, decide (0 < (brAll d xs xs.length).2.2)) else (0, 0, 0, false)) := rfl
  obtain ⟨F, hF⟩ : ∃ F, Hid (bestReplF d xs = F) := ⟨_, rfl⟩
  rw [hF.out] at GF ⊢
  have RS := hide (fun (k : Nat) (s : BrS) (m : Nat) => brRow_succ d xs k s m)
  have AS := hide (fun (k : Nat) => brAll_succ d xs k)
  clear h hx hl hw hle
  obtain ⟨n, hn⟩ : ∃ n, Hid (xs.length = n) := ⟨_, rfl⟩
  rw [hn.out] at a1 hlen PG RG GF BO HXI ⊢
  have cB := B0.out.cell
  rw [hW0.out] at cB
  cases hp : progB d xs
  · have HF : Hid (F = (0, 0, 0, false)) := by show _ = _; rw [GF.out, hp]; rfl
    rw [hp] at PG
    clear hp RG GF BO RS AS
    go_enter Tryz.func15, Tryz.ntmps15
    go_wp2_with fail
    rw [← hW0.out]
    clear hW0 cB
    refine PG.out.mono ?_
    rintro e w1 ⟨rfl, x1⟩
    have X1 := hide (X0.out.trans x1)
    clear x1 PG
    go_wp2
    refine bodyPost_ret (v := .tuple #[.int .i64 0, .int .i64 0, .int .i64 0, .bool false]) (by simp [results, Tryz.results15, go_sem]) rfl ?_
    exact ⟨by rw [HF.out], X1.out⟩
  have HP := hide hp
  rw [hp, if_pos rfl] at GF
  rw [hp] at PG
  have HC := hide (codeB_ok (progB_code hp).1)
  have h14 := (progB_ls hp).n
  rw [hn.out] at h14
  have n24 : nc ≤ 24 := by rw [← NC.out]; exact HC.out.n2
  have cx1 := HLE.out.1; have cx2 := HLE.out.2.1
  rw [NC.out] at cx1
  clear hp
  go_enter Tryz.func15, Tryz.ntmps15
  go_wp2_with fail
  rw [← hW0.out]
  clear hW0 cB
  refine PG.out.mono ?_
  rintro e w1 ⟨rfl, x1⟩
  have X1 := hide (X0.out.trans x1)
  have C1 := hide (B0.out.ext x1)
  clear x1 PG
  go_wp2
  go_loopw [8, 9, 10, 22] (fun q1 q2 q3 i0 wr => ∃ (k : Nat) (a b m : Int), k ≤ n ∧ i0 = .int .i64 k ∧ q1 = .int .i64 a ∧ q2 = .int .i64 b ∧ q3 = .int .i64 m ∧ Hid (brAll d xs k = (a, b, m)) ∧ Ext w1 wr) (fun _ _ _ i0 _ => n - (intOf i0).toNat)
  case atStart => exact ⟨0, 0, 0, 0, Nat.zero_le _, rfl, rfl, rfl, rfl, rfl, Ext.refl _⟩
  case round =>
    obtain ⟨k, a, bb, m, hk, rfl, rfl, rfl, rfl, hs, hx⟩ := hrel
    have HX := hide hx
    clear hx
    by_cases hlt : k < n
    · have cB := (C1.out.ext HX.out).cell
      have SA := hide (AS.out k)
      rw [hs.out, NC.out] at SA
      obtain ⟨wo, rfl⟩ : ∃ wo : World, wo = wr := ⟨_, rfl⟩
      go_wp2
      clear cB
      go_loopw [8, 9, 10, 28] (fun q1 q2 q3 i0 wr => ∃ (j : Nat) (a' b' m' : Int), j ≤ nc ∧ i0 = .int .i64 j ∧ q1 = .int .i64 a' ∧ q2 = .int .i64 b' ∧ q3 = .int .i64 m' ∧ Hid (brRow d xs k (a, bb, m) j = (a', b', m')) ∧ Ext wo wr) (fun _ _ _ i0 _ => nc - (intOf i0).toNat)
      case atStart => exact ⟨0, a, bb, m, Nat.zero_le _, rfl, rfl, rfl, rfl, rfl, Ext.refl _⟩
      case round =>
        obtain ⟨j, a', b', m', hj, rfl, rfl, rfl, rfl, hs2, hx⟩ := hrel
        have HX2 := hide hx
        clear hx
        by_cases hltj : j < nc
        · obtain ⟨y, hyk⟩ : ∃ y, Hid (d.1[j]? = some y) := get_ex d.1 j (by rw [NC.out]; exact hltj)
          have XO := hide (X1.out.trans (HX.out.trans HX2.out))
          obtain ⟨be, oe, rfl, hbe, g0, g1, g2, g3, xl⟩ := (HLE.out.ext XO.out (Nat.le_refl _)).element j y hyk.out
          have yb := HC.out.els j y hyk.out
          have hyn : nameB y.1 = true := by simp only [elB, Bool.and_eq_true] at yb; exact yb.1.1.1
          obtain ⟨W1, hW1⟩ : ∃ W1, Hid (W1 = wr.alloc (.cells #[.string (bs y.1), .int .i64 y.2.1, .int .i64 y.2.2.1, .int .i64 y.2.2.2] 65)) := ⟨_, rfl⟩
          have Y1 : Hid (Ext wr W1) := by rw [hW1.out]; exact Ext.alloc _ _
          have E1 : Hid (Blk W1 wr.heap.size #[.string (bs y.1), .int .i64 y.2.1, .int .i64 y.2.2.1, .int .i64 y.2.2.2] 65) := by rw [hW1.out]; exact Blk.new rfl _ _
          have X5 := hide (HX2.out.trans Y1.out)
          have CG := hide (RG.out W1 (X1.out.trans (HX.out.trans X5.out)) HP.out k hlt y hyn)
          have ST := hide (RS.out k (a, bb, m) j)
          rw [hs2.out] at ST
          have GE : Hid (d.1.getD j noEl = y) := getD_some hyk.out
          have SY := hide (fun (g : Int) (h1 : gainR d xs k y.1 = (g, true)) (h2 : m' < g) => brStep_yes (a := a') (b := b') (by rw [GE.out]; exact h1) h2)
          have SN := hide (fun (g : Int) (q : Bool) (h1 : gainR d xs k y.1 = (g, q)) (h2 : q = false ∨ ¬ m' < g) => brStep_no (a := a') (b := b') (by rw [GE.out]; exact h1) h2)
          obtain ⟨g, q, hgq⟩ : ∃ (g : Int) (q : Bool), Hid (gainR d xs k y.1 = (g, q)) := ⟨_, _, rfl⟩
          rw [hgq.out] at CG SY SN
          have cB := (C1.out.ext (HX.out.trans X5.out)).cell
          have cE := E1.out.cell
          rw [hW1.out] at cB cE
          clear yb hyn xl
          generalize bs y.1 = yn at *
          generalize y.2.1 = y1 at *
          generalize y.2.2.1 = y2 at *
          generalize y.2.2.2 = y3 at *
          go_wp2_with fail
          rw [← hW1.out]
          clear hW1 cB cE g0 g1 g2 g3
          refine CG.out.mono ?_
          rintro e w5 ⟨rfl, x5⟩
          have X6 := hide (X5.out.trans x5)
          clear x5 CG
          cases q
          · have HS := hide (ST.out.trans (SN.out g false rfl (.inl rfl)))
            clear ST SY SN
            go_wp2
            go_roundw
            case rel => exact ⟨j + 1, a', b', m', by omega, by go_num, rfl, rfl, rfl, HS, X6.out⟩
            case measure => simp [intOf]; omega
          · by_cases hgt : m' < g
            · have HS := hide (ST.out.trans (SY.out g rfl hgt))
              clear ST SY SN
              go_wp2
              go_roundw
              case rel => exact ⟨j + 1, k, j, g, by omega, by go_num, rfl, rfl, rfl, HS, X6.out⟩
              case measure => simp [intOf]; omega
            · have HS := hide (ST.out.trans (SN.out g true rfl (.inr (by omega))))
              clear ST SY SN
              go_wp2
              go_roundw
              case rel => exact ⟨j + 1, a', b', m', by omega, by go_num, rfl, rfl, rfl, HS, X6.out⟩
              case measure => simp [intOf]; omega
        · have ej : nc = j := by omega
          subst ej
          rw [hs2.out] at SA
          go_wp2
          go_roundw
          case rel => exact ⟨k + 1, a', b', m', by omega, by go_num, rfl, rfl, rfl, SA, HX.out.trans HX2.out⟩
          case measure => simp [intOf]; omega
    · have ek : n = k := by omega
      subst ek
      rw [hs.out] at GF BO
      have m0 := BO.out.1
      have mz := BO.out.2
      have MZ := hide mz
      clear BO mz
      dsimp only at m0
      by_cases hz : m = 0
      · have e9 := MZ.out hz
        simp only [Prod.mk.injEq] at e9
        obtain ⟨rfl, rfl, -⟩ := e9
        subst hz
        have HF : Hid (F = (0, 0, 0, false)) := by show _ = _; rw [GF.out]; simp
        clear GF MZ
        go_wp2
        refine bodyPost_ret (v := .tuple #[.int .i64 0, .int .i64 0, .int .i64 0, .bool false]) (by simp [results, Tryz.results15, go_sem]) rfl ?_
        exact ⟨by rw [HF.out], X1.out.trans HX.out⟩
      · have g9 : (m == 0) = false := by rw [beq_eq_false_iff_ne]; exact hz
        have g8 : (0 : Int) < m := by omega
        have HF : Hid (F = (a, bb, m, true)) := by show _ = _; rw [GF.out]; simp [g8]
        clear GF MZ
        go_wp2
        refine bodyPost_ret (v := .tuple #[.int .i64 a, .int .i64 bb, .int .i64 m, .bool true]) (by simp [results, Tryz.results15, go_sem]) rfl ?_
        exact ⟨by rw [HF.out], X1.out.trans HX.out⟩

set_option maxRecDepth 100000 in
set_option maxHeartbeats 4000000 in
theorem s.BestReplace_law (w : World) (v v1 : Value) (d : CoD) (xs : List ItD) (h : kC.rd w v d) (hok : kC.ok d) (hx : kIt.rd w v1 xs) (hox : kIt.ok xs) :
    Calls Tryz.prog 14 #[v, v1] w fun e w' => e = .returned (.tuple #[.int .i64 (bestReplF d xs).1, .int .i64 (bestReplF d xs).2.1, .int .i64 (bestReplF d xs).2.2.1, .bool (bestReplF d xs).2.2.2]) ∧ Ext w w' := by
  obtain ⟨Ac, cc, Al, cl, rfl, hle, _⟩ := kC.lr h
  obtain ⟨nc, NC⟩ : ∃ z, Hid (d.1.length = z) := ⟨_, rfl⟩
  obtain ⟨nl, NL⟩ : ∃ z, Hid (d.2.1.length = z) := ⟨_, rfl⟩
  obtain ⟨rr, RN⟩ : ∃ z, Hid (d.2.2.1 = z) := ⟨_, rfl⟩
  obtain ⟨b, BN⟩ : ∃ z, Hid (d.2.2.2.1 = z) := ⟨_, rfl⟩
  obtain ⟨p, PN⟩ : ∃ z, Hid (d.2.2.2.2.1 = z) := ⟨_, rfl⟩
  obtain ⟨f, FN⟩ : ∃ z, Hid (d.2.2.2.2.2 = z) := ⟨_, rfl⟩
  rw [NC.out, NL.out, RN.out, BN.out, PN.out, FN.out] at h ⊢
  have HXI := hide hx
  obtain ⟨A, c, rfl, hl⟩ := kIt.lr hx
  have hw : wtL kdItem xs ≤ 1048576 := hox
  have hlen := Nat.le_trans (wtL_len kdItem xs) hw
  have HR := hide h
  have HL := hide hl
  have HLE := hide hle
  have a1 := hl.1; have a2 := hl.2.1
  obtain ⟨W0, hW0⟩ : ∃ W0, Hid (W0 = w.alloc (.cells #[.slice Ac nc cc, .slice Al nl cl, .int .i64 rr, .int .i64 b, .int .i64 p, .int .i64 f] 33)) := ⟨_, rfl⟩
  have X0 : Hid (Ext w W0) := by rw [hW0.out]; exact Ext.alloc w _
  have B0 : Hid (Blk W0 w.heap.size #[.slice Ac nc cc, .slice Al nl cl, .int .i64 rr, .int .i64 b, .int .i64 p, .int .i64 f] 33) := by rw [hW0.out]; exact Blk.new rfl _ _
  have PG := hide (s.pgGood_m W0 _ d A c w.heap.size xs (kC.rd_ext h X0.out) hok (hl.ext X0.out (Nat.le_refl _)) X0.out.size hw)
  have RG := hide (fun (wq : World) (xq : Ext w wq) (j : Nat) (hj : j < xs.length) (nm : List UInt8) (hnm : nm.length ≤ 1048576) => s.ReplaceGain_law wq _ _ d xs (j : Int) nm (kC.rd_ext HR.out xq) hok (kIt.rd_ext HXI.out xq) hox (by unfold InR; omega) hnm)
  have GR := hide (fun (j : Nat) (nm : List UInt8) (hp : progB d xs = true) (hj : j < xs.length) => gainF_R nm hp hj)
  have BO := hide (brAll_ok d xs xs.length)
  have GF : Hid (bestReplF d xs = if progB d xs then ((brAll d xs xs.length).1, (brAll d xs xs.length).2.1, (brAll d xs xs.length).2.2, decide (0 < (brAll d xs xs.length).2.2)) else (0, 0, 0, false)) := rfl
  obtain ⟨F, hF⟩ : ∃ F, Hid (bestReplF d xs = F) := ⟨_, rfl⟩
  rw [hF.out] at GF ⊢
  have RS := hide (fun (k : Nat) (s : BrS) (m : Nat) => brRow_succ d xs k s m)
  have AS := hide (fun (k : Nat) => brAll_succ d xs k)
  clear h hx hl hw hle
  obtain ⟨n, hn⟩ : ∃ n, Hid (xs.length = n) := ⟨_, rfl⟩
  rw [hn.out] at a1 hlen PG RG GF BO HXI ⊢
  have cB := B0.out.cell
  rw [hW0.out] at cB
  cases hp : progB d xs
  · have HF : Hid (F = (0, 0, 0, false)) := by show _ = _; rw [GF.out, hp]; rfl
    rw [hp] at PG
    clear hp RG GF BO RS AS
    go_enter Tryz.func14, Tryz.ntmps14
    go_wp2_with fail
    rw [← hW0.out]
    clear hW0 cB
    refine PG.out.mono ?_
    rintro e w1 ⟨rfl, x1⟩
    have X1 := hide (X0.out.trans x1)
    clear x1 PG
    go_wp2
    refine bodyPost_ret (v := .tuple #[.int .i64 0, .int .i64 0, .int .i64 0, .bool false]) (by simp [results, Tryz.results14, go_sem]) rfl ?_
    exact ⟨by rw [HF.out], X1.out⟩
  have HP := hide hp
  rw [hp, if_pos rfl] at GF
  rw [hp] at PG
  have HC := hide (codeB_ok (progB_code hp).1)
  have h14 := (progB_ls hp).n
  rw [hn.out] at h14
  have n24 : nc ≤ 24 := by rw [← NC.out]; exact HC.out.n2
  have cx1 := HLE.out.1; have cx2 := HLE.out.2.1
  rw [NC.out] at cx1
  clear hp
  go_enter Tryz.func14, Tryz.ntmps14
  go_wp2_with fail
  rw [← hW0.out]
  clear hW0 cB
  refine PG.out.mono ?_
  rintro e w1 ⟨rfl, x1⟩
  have X1 := hide (X0.out.trans x1)
  have C1 := hide (B0.out.ext x1)
  clear x1 PG
  go_wp2
  go_loopw [8, 9, 10, 22] (fun q1 q2 q3 i0 wr => ∃ (k : Nat) (a b m : Int), k ≤ n ∧ i0 = .int .i64 k ∧ q1 = .int .i64 a ∧ q2 = .int .i64 b ∧ q3 = .int .i64 m ∧ Hid (brAll d xs k = (a, b, m)) ∧ Ext w1 wr) (fun _ _ _ i0 _ => n - (intOf i0).toNat)
  case atStart => exact ⟨0, 0, 0, 0, Nat.zero_le _, rfl, rfl, rfl, rfl, rfl, Ext.refl _⟩
  case round =>
    obtain ⟨k, a, bb, m, hk, rfl, rfl, rfl, rfl, hs, hx⟩ := hrel
    have HX := hide hx
    clear hx
    by_cases hlt : k < n
    · have cB := (C1.out.ext HX.out).cell
      have SA := hide (AS.out k)
      rw [hs.out, NC.out] at SA
      obtain ⟨wo, rfl⟩ : ∃ wo : World, wo = wr := ⟨_, rfl⟩
      go_wp2
      clear cB
      go_loopw [8, 9, 10, 28] (fun q1 q2 q3 i0 wr => ∃ (j : Nat) (a' b' m' : Int), j ≤ nc ∧ i0 = .int .i64 j ∧ q1 = .int .i64 a' ∧ q2 = .int .i64 b' ∧ q3 = .int .i64 m' ∧ Hid (brRow d xs k (a, bb, m) j = (a', b', m')) ∧ Ext wo wr) (fun _ _ _ i0 _ => nc - (intOf i0).toNat)
      case atStart => exact ⟨0, a, bb, m, Nat.zero_le _, rfl, rfl, rfl, rfl, rfl, Ext.refl _⟩
      case round =>
        obtain ⟨j, a', b', m', hj, rfl, rfl, rfl, rfl, hs2, hx⟩ := hrel
        have HX2 := hide hx
        clear hx
        by_cases hltj : j < nc
        · obtain ⟨y, hyk⟩ : ∃ y, Hid (d.1[j]? = some y) := get_ex d.1 j (by rw [NC.out]; exact hltj)
          have XO := hide (X1.out.trans (HX.out.trans HX2.out))
          obtain ⟨be, oe, rfl, hbe, g0, g1, g2, g3, xl⟩ := (HLE.out.ext XO.out (Nat.le_refl _)).element j y hyk.out
          have yb := HC.out.els j y hyk.out
          have hyn : nameB y.1 = true := by simp only [elB, Bool.and_eq_true] at yb; exact yb.1.1.1
          obtain ⟨W1, hW1⟩ : ∃ W1, Hid (W1 = wr.alloc (.cells #[.string (bs y.1), .int .i64 y.2.1, .int .i64 y.2.2.1, .int .i64 y.2.2.2] 65)) := ⟨_, rfl⟩
          have Y1 : Hid (Ext wr W1) := by rw [hW1.out]; exact Ext.alloc _ _
          have E1 : Hid (Blk W1 wr.heap.size #[.string (bs y.1), .int .i64 y.2.1, .int .i64 y.2.2.1, .int .i64 y.2.2.2] 65) := by rw [hW1.out]; exact Blk.new rfl _ _
          have X5 := hide (HX2.out.trans Y1.out)
          have CG := hide (RG.out W1 (X1.out.trans (HX.out.trans X5.out)) k hlt y.1 (by have := nmLen hyn; omega))
          rw [GR.out k y.1 HP.out (by rw [hn.out]; exact hlt)] at CG
          have ST := hide (RS.out k (a, bb, m) j)
          rw [hs2.out] at ST
          have GE : Hid (d.1.getD j noEl = y) := getD_some hyk.out
          have SY := hide (fun (g : Int) (h1 : gainR d xs k y.1 = (g, true)) (h2 : m' < g) => brStep_yes (a := a') (b := b') (by rw [GE.out]; exact h1) h2)
          have SN := hide (fun (g : Int) (q : Bool) (h1 : gainR d xs k y.1 = (g, q)) (h2 : q = false ∨ ¬ m' < g) => brStep_no (a := a') (b := b') (by rw [GE.out]; exact h1) h2)
          obtain ⟨g, q, hgq⟩ : ∃ (g : Int) (q : Bool), Hid (gainR d xs k y.1 = (g, q)) := ⟨_, _, rfl⟩
          rw [hgq.out] at CG SY SN
          have cB := (C1.out.ext (HX.out.trans X5.out)).cell
          have cE := E1.out.cell
          rw [hW1.out] at cB cE
          clear yb hyn xl
          generalize bs y.1 = yn at *
          generalize y.2.1 = y1 at *
          generalize y.2.2.1 = y2 at *
          generalize y.2.2.2 = y3 at *
          go_wp2_with fail
          rw [← hW1.out]
          clear hW1 cB cE g0 g1 g2 g3
          refine CG.out.mono ?_
          rintro e w5 ⟨rfl, x5⟩
          have X6 := hide (X5.out.trans x5)
          clear x5 CG
          cases q
          · have HS := hide (ST.out.trans (SN.out g false rfl (.inl rfl)))
            clear ST SY SN
            go_wp2
            go_roundw
            case rel => exact ⟨j + 1, a', b', m', by omega, by go_num, rfl, rfl, rfl, HS, X6.out⟩
            case measure => simp [intOf]; omega
          · by_cases hgt : m' < g
            · have HS := hide (ST.out.trans (SY.out g rfl hgt))
              clear ST SY SN
              go_wp2
              go_roundw
              case rel => exact ⟨j + 1, k, j, g, by omega, by go_num, rfl, rfl, rfl, HS, X6.out⟩
              case measure => simp [intOf]; omega
            · have HS := hide (ST.out.trans (SN.out g true rfl (.inr (by omega))))
              clear ST SY SN
              go_wp2
              go_roundw
              case rel => exact ⟨j + 1, a', b', m', by omega, by go_num, rfl, rfl, rfl, HS, X6.out⟩
              case measure => simp [intOf]; omega
        · have ej : nc = j := by omega
          subst ej
          rw [hs2.out] at SA
          go_wp2
          go_roundw
          case rel => exact ⟨k + 1, a', b', m', by omega, by go_num, rfl, rfl, rfl, SA, HX.out.trans HX2.out⟩
          case measure => simp [intOf]; omega
    · have ek : n = k := by omega
      subst ek
      rw [hs.out] at GF BO
      have m0 := BO.out.1
      have mz := BO.out.2
      have MZ := hide mz
      clear BO mz
      dsimp only at m0
      by_cases hz : m = 0
      · have e9 := MZ.out hz
        simp only [Prod.mk.injEq] at e9
        obtain ⟨rfl, rfl, -⟩ := e9
        subst hz
        have HF : Hid (F = (0, 0, 0, false)) := by show _ = _; rw [GF.out]; simp
        clear GF MZ
        go_wp2
        refine bodyPost_ret (v := .tuple #[.int .i64 0, .int .i64 0, .int .i64 0, .bool false]) (by simp [results, Tryz.results14, go_sem]) rfl ?_
        exact ⟨by rw [HF.out], X1.out.trans HX.out⟩
      · have g9 : (m == 0) = false := by rw [beq_eq_false_iff_ne]; exact hz
        have g8 : (0 : Int) < m := by omega
        have HF : Hid (F = (a, bb, m, true)) := by show _ = _; rw [GF.out]; simp [g8]
        clear GF MZ
        go_wp2
        refine bodyPost_ret (v := .tuple #[.int .i64 a, .int .i64 bb, .int .i64 m, .bool true]) (by simp [results, Tryz.results14, go_sem]) rfl ?_
        exact ⟨by rw [HF.out], X1.out.trans HX.out⟩

end Go.Proofs.YteachljlnekkgaaGreat
