/- Draws of lists of items of a code's elements. -/
import Derived.Test.YtcngiipdffjkfaaEI
namespace Go.Proofs.Ytcngiipdffjkfaa
open Go.RowKit Go.Sort
set_option linter.unusedVariables false

theorem DF.putS {w0 ws w : World} {g M x m c : Nat} {Ts T : Typ} {e : TypeId} (h : DF w0 ws g 64 M Ts T w) (hT : T x = some ([.str], e, m, c)) (i : Nat) {y : List UInt8} (hy : y.length ≤ 16) : DF w0 ws g 64 M Ts T (w.setCell ⟨x, i, none⟩ (.string (bs y))) := by
  have d := h.store hT (i := i) (j := 0) (k := .str) rfl (isStr_of hy)
  have e2 : i * ([VK.str] : List VK).length + 0 = i := by simp
  rw [e2] at d
  exact d
theorem DF.putI {w0 ws w : World} {g M x m c : Nat} {Ts T : Typ} {e : TypeId} (h : DF w0 ws g 64 M Ts T w) (hT : T x = some ([.int], e, m, c)) (i : Nat) (z : Int) : DF w0 ws g 64 M Ts T (w.setCell ⟨x, i, none⟩ (.int .i64 z)) := by
  have d := h.store hT (i := i) (j := 0) (k := .int) rfl ⟨z, rfl⟩
  have e2 : i * ([VK.int] : List VK).length + 0 = i := by simp
  rw [e2] at d
  exact d
/-- The three cells of an item of a typed row. -/
theorem DS.it3 {w0 w : World} {g L M n c i p : Nat} {T : Typ} {A : Option Addr} (h : DS w0 g L M T w) (s : ST T (ksIt p) 43 A n c) (hi : i < n) :
    ∃ x A1 n1 c1 A2 n2 c2 q, A = some ⟨x, 0, none⟩ ∧ p ≤ n1 ∧ p ≤ n2 ∧ ST T [.str] 9 A1 n1 c1 ∧ ST T [.int] 3 A2 n2 c2 ∧ T x ≠ none ∧ x < w.heap.size ∧ w.cell? ⟨x, i * 3, none⟩ = some (.slice A1 n1 c1) ∧ w.cell? ⟨x, i * 3 + 1, none⟩ = some (.slice A2 n2 c2) ∧ w.cell? ⟨x, i * 3 + 2, none⟩ = some (.bool q) := by
  obtain ⟨x, v, rfl, h1, h2, _, h3, h4⟩ := h.ts.load s hi (show (ksIt p)[0]? = some (vS p) from rfl)
  obtain ⟨x1, v1, e1, i1, j1, _⟩ := h.ts.load s hi (show (ksIt p)[1]? = some (vI p) from rfl)
  obtain ⟨x2, v2, e2, i2, j2, _⟩ := h.ts.load s hi (show (ksIt p)[2]? = some .bool from rfl)
  have f1 : x1 = x := (congrArg Addr.block (Option.some.inj e1)).symm
  have f2 : x2 = x := (congrArg Addr.block (Option.some.inj e2)).symm
  subst f1 f2
  obtain ⟨A1, n1, c1, rfl, s1, p1⟩ := h2
  obtain ⟨A2, n2, c2, rfl, s2, p2⟩ := j1
  obtain ⟨q, rfl⟩ := j2
  exact ⟨_, A1, n1, c1, A2, n2, c2, q, rfl, p1, p2, s1, s2, h4, h3, h1, i1, i2⟩

set_option maxRecDepth 100000 in
set_option maxHeartbeats 8000000 in
theorem cu.items_m (w0 w : World) (g M : Nat) (T : Typ) (A1 : Option Addr) (n1 c1 : Nat) (A2 : Option Addr) (n2 c2 : Nat) (r bo k f : Int) (h : DS w0 g 64 M T w) (hM : M ≤ 4611686018400000000) (hs : ST T ksEl 65 A1 n1 c1) (hn : 1 ≤ n1) (hn2 : n1 ≤ 25) :
    Calls Try.prog 76 #[.pointer (some ⟨g, 0, none⟩), .agg #[.slice A1 n1 c1, .slice A2 n2 c2, .int .i64 r, .int .i64 bo, .int .i64 k, .int .i64 f]] w fun e w' => ∃ (T' : Typ) (A : Option Addr) (n c : Nat), e = .returned (.slice A n c) ∧ n ≤ 14 ∧ DF w0 w g 64 (M + 1000) T T' w' ∧ ST T' (ksIt 1) 43 A n c := by
  have hg := h.cg
  obtain ⟨W0, hW0⟩ : ∃ W0, Hid (W0 = w.alloc (.cells #[.slice A1 n1 c1, .slice A2 n2 c2, .int .i64 r, .int .i64 bo, .int .i64 k, .int .i64 f] 27)) := ⟨_, rfl⟩
  have D0 : Hid (DF w0 w g 64 M T T W0) := by rw [hW0.out]; exact (DF.start h).ext (Ext.alloc _ _)
  have B0 : Hid (Bx g T W0 w.heap.size #[.slice A1 n1 c1, .slice A2 n2 c2, .int .i64 r, .int .i64 bo, .int .i64 k, .int .i64 f] 27) := by rw [hW0.out]; exact Bx.new h _ _
  have HS := hide hs
  clear h hs
  go_enter Try.func76, Try.ntmps76
  go_wp2_with fail
  rw [← hW0.out]
  clear hW0
  refine (cu.pick_m W0 g M 7 D0.out.ds.cu (by omega) (by unfold InR; omega)).mono ?_
  rintro e w1 ⟨z, rfl, z0, z1, -, ca, ka⟩
  have D1 := hide (D0.out.curs ka ca)
  have B1 := hide (B0.out.curs ka)
  have z2 := z1 (by omega)
  clear ca ka z1 D0 B0
  go_wp2_with fail
  refine (cu.one_m w1 g _ 24 D1.out.ds.cu (by omega) (by unfold InR; omega)).mono ?_
  rintro e w2 ⟨q, rfl, ca, ka⟩
  have D2 := hide (D1.out.curs ka ca)
  have B2 := hide (B1.out.curs ka)
  clear ca ka D1 B1
  go_upto_if 11 with fail
  go_cut [6] (fun s6 wx => ∃ z : Int, s6 = .int .i64 z ∧ 0 ≤ z ∧ z ≤ 14 ∧ DF w0 w g 64 (M + 4) T T wx ∧ Bx g T wx w.heap.size #[.slice A1 n1 c1, .slice A2 n2 c2, .int .i64 r, .int .i64 bo, .int .i64 k, .int .i64 f] 27)
  case first =>
    cases q
    · go_wp2
      go_meet
      exact ⟨z, rfl, z0, by omega, D2.out, B2.out⟩
    · go_wp2
      go_meet
      exact ⟨14, rfl, by omega, by omega, D2.out, B2.out⟩
  case rest =>
    obtain ⟨z, rfl, z0, z1, df, bx⟩ := hcut
    clear D2 B2
    have D1 := hide df
    have B1 := hide bx
    clear df bx
    go_wp2
    go_loopw [5, 6] (fun s5 s6 wr => ∃ (z : Int) (j : Nat) (T' : Typ) (A : Option Addr) (c : Nat), s6 = .int .i64 z ∧ s5 = .slice A j c ∧ 0 ≤ z ∧ z + j ≤ 14 ∧ DF w0 w g 64 (M + 4 + 60 * j) T T' wr ∧ Bx g T' wr w.heap.size #[.slice A1 n1 c1, .slice A2 n2 c2, .int .i64 r, .int .i64 bo, .int .i64 k, .int .i64 f] 27 ∧ ST T' (ksIt 1) 43 A j c) (fun s5 s6 _ => (intOf s6).toNat)
    case atStart => exact ⟨z, 0, T, none, 0, rfl, rfl, z0, by omega, D1.out, B1.out, ST.none_⟩
    case round =>
      clear D1 B1 z0 z1
      obtain ⟨z, j, T1, A, c, rfl, rfl, z0, z1, df, bx, st⟩ := hrel
      have D := hide df
      have B := hide bx
      have L := hide st
      clear df bx st
      by_cases hlt : 0 < z
      · have q0 := B.out.cell
        go_wp2_with fail
        refine (cu.item_m w0 wr g _ T1 A1 n1 c1 A2 n2 c2 r bo k f D.out.ds (by omega) (HS.out.mono D.out.sp.le) hn hn2).mono ?_
        rintro e w2 ⟨T2, A3, n3, c3, A4, c4, q, rfl, m1, m2, f2, t1, t2⟩
        have D2 := hide (D.out.call f2)
        have B2 := hide (B.out.stp f2.sp)
        have L2 := hide (L.out.mono f2.sp.le)
        obtain ⟨b, hb⟩ : ∃ b, Hid (w2.heap.size = b) := ⟨_, rfl⟩
        have U := hide (Bx.newAt D2.out.ds hb.out #[.slice A3 n3 c3, .slice A4 n3 c4, .bool q] 43)
        have D3 := hide (D2.out.ext (Ext.alloc w2 (.cells #[.slice A3 n3 c3, .slice A4 n3 c4, .bool q] 43)))
        have B3 := hide (B2.out.ext (Ext.alloc w2 (.cells #[.slice A3 n3 c3, .slice A4 n3 c4, .bool q] 43)))
        have T1h := hide t1
        have T2h := hide t2
        have bw : w.heap.size ≤ b := by have := B2.out.lt; have := hb.out; omega
        clear f2 t1 t2 D B L D2 B2 q0
        go_upto_region 8 with fail
        rw [hb.out]
        generalize w2.alloc (.cells #[.slice A3 n3 c3, .slice A4 n3 c4, .bool q] 43) = w3 at *
        clear hb
        have jm : (j : Int) ≤ 14 := by omega
        go_cut [25] (fun s25 wx => ∃ Q, s25 = .bool Q ∧ (Q = true → 0 < j) ∧ DF w0 w g 64 (M + 4 + 60 * j + 44) T T2 wx ∧ Bx g T2 wx w.heap.size #[.slice A1 n1 c1, .slice A2 n2 c2, .int .i64 r, .int .i64 bo, .int .i64 k, .int .i64 f] 27 ∧ Bx g T2 wx b #[.slice A3 n3 c3, .slice A4 n3 c4, .bool q] 43)
        case first =>
          by_cases hj : 0 < j
          · have hjz : (0 : Int) < (j : Int) := by omega
            go_wp2_with fail
            refine (cu.one_m w3 g _ 3 D3.out.ds.cu (by omega) (by unfold InR; omega)).mono ?_
            rintro e w5 ⟨Q, rfl, ca, ka⟩
            go_wp2
            go_meet
            exact ⟨Q, rfl, fun _ => hj, (D3.out.curs ka ca).more (by omega), B3.out.curs ka, U.out.curs ka⟩
          · obtain rfl : j = 0 := by omega
            go_wp2
            go_meet
            exact ⟨false, rfl, by simp, D3.out.more (by omega), B3.out, U.out⟩
        case rest =>
          obtain ⟨Q, rfl, hQ, df, bx, u⟩ := hcut
          have D4 := hide df
          have B4 := hide bx
          have U4 := hide u
          clear df bx u D3 B3 U
          go_upto_if 25 with fail
          go_cut [] (fun wx => DF w0 w g 64 (M + 4 + 60 * j + 50) T T2 wx ∧ Bx g T2 wx w.heap.size #[.slice A1 n1 c1, .slice A2 n2 c2, .int .i64 r, .int .i64 bo, .int .i64 k, .int .i64 f] 27 ∧ Bx g T2 wx b #[.slice A3 n3 c3, .slice A4 n3 c4, .bool q] 43)
          case first =>
            cases Q
            · go_wp2
              go_meet
              exact ⟨D4.out.more (by omega), B4.out, U4.out⟩
            · have hj := hQ rfl
              obtain ⟨xl, ml, rfl, hTl, hml⟩ := L2.out.pos hj
              obtain ⟨x3, m3, rfl, hT3, hm3⟩ := T1h.out.pos (by omega)
              have cb := U4.out.cell 0
              have bl := U4.out.lt
              have mp : 0 < n3 := m1
              go_wp2_with fail
              go_region_law (go_simp; go_at_call 49; refine (cu.pick_m _ g _ j (D4.out.ds.cu.ext (Ext.drew _)) (by omega) (by unfold InR; omega)).mono ?_; rintro e w5 ⟨ri, rfl, ri0, ri1, -, ca, ka⟩; obtain ⟨i, rfl⟩ : ∃ i : Nat, ri = i := ⟨ri.toNat, by omega⟩; have hi : (i : Int) < j := ri1 (by omega); have D5 := hide ((D4.out.ext (Ext.drew _)).curs ka ca); have B5 := hide ((B4.out.ext (Ext.drew _)).curs ka); have U5 := hide ((U4.out.ext (Ext.drew _)).curs ka); obtain ⟨x, A5, n5, c5, A6, n6, c6, q6, ex, p5, -, s5, -, -, -, e0, -, -⟩ := D5.out.ds.it3 L2.out (show i < j by omega); obtain rfl : x = xl := (congrArg Addr.block (Option.some.inj ex)).symm; obtain ⟨x5, v5, rfl, e5, v5h, -⟩ := D5.out.ds.ts.load s5 (show 0 < n5 from p5) (show [VK.str][0]? = some .str from rfl); obtain ⟨y, rfl, hy⟩ := (show IsStr v5 from v5h); have e5' : w5.cell? ⟨x5, 0, none⟩ = some (.string (bs y)) := (by simpa using e5); obtain ⟨x6, v6, ex6, e6, -, -, -, hT6⟩ := D5.out.ds.ts.load T1h.out (show 0 < n3 from m1) (show [VK.str][0]? = some .str from rfl); obtain rfl : x6 = x3 := (congrArg Addr.block (Option.some.inj ex6)).symm; have e6' : w5.cell? ⟨x6, 0, none⟩ = some v6 := (by simpa using e6); have f6 := D5.out.ds.ts.free hT6; have cb5 := U5.out.cell 0; have HY := hide hy; have p5' : 0 < n5 := p5; clear ca ka e5 e6 v5h ri1)
              all_goals
                go_wp2
                go_meet
                exact ⟨(D5.out.putS hT3 0 HY.out).more (by omega), B5.out.store hT6 _ _, U5.out.store hT6 _ _⟩
          case rest =>
            obtain ⟨df, bx, u⟩ := hcut
            clear D4 B4 U4
            have D4 := hide df
            have B4 := hide bx
            have U4 := hide u
            clear df bx u
            have q5 := U4.out.cell
            have D5 := hide (D4.out.ext (Ext.alloc wc (.cells #[.slice A3 n3 c3, .slice A4 n3 c4, .bool q] 43)))
            have B5 := hide (B4.out.ext (Ext.alloc wc (.cells #[.slice A3 n3 c3, .slice A4 n3 c4, .bool q] 43)))
            go_wp2_with (at_builtin; refine wpList_append_T (ks := ksIt 1) (by rfl) (.tmp 39) (.tmp 41) (by rfl) elemN_item (by rfl) (by rfl) D5.out.ds.ts D5.out.ds.size L2.out (by decide) (by rfl) (src3At rfl _ _ _ _) (it3 T1h.out T2h.out m1 m1).el (by decide) (by omega) (by decide) (by omega) ?_; intro A5 c5 w8 T5 ap; have S7 := hide (D5.out.ds.app ap); have D8 := hide (D5.out.stp S7.out.2.1 S7.out.1); have B8 := hide (B5.out.stp S7.out.2.1); clear ap)
            go_roundw
            case rel => exact ⟨z - 1, j + 1, T5, A5, c5, by go_num, rfl, by omega, by omega, D8.out.more (by omega), B8.out, S7.out.2.2⟩
            case measure => simp [intOf]; omega
      · obtain rfl : z = 0 := by omega
        go_wp2
        go_ret
        exact ⟨T1, A, j, c, rfl, by omega, D.out.more (by omega), L.out⟩
end Go.Proofs.Ytcngiipdffjkfaa
