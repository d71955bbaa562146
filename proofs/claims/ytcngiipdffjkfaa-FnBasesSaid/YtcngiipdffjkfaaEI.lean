/- Draws of items of a code's elements, and lists of them. -/
import Derived.Test.YtcngiipdffjkfaaEH
namespace Go.Proofs.Ytcngiipdffjkfaa
open Go.RowKit Go.Sort
set_option linter.unusedVariables false

/-- The four cells of an element of a typed row. -/
theorem DS.el4 {w0 w : World} {g L M n c i : Nat} {T : Typ} {A : Option Addr} (h : DS w0 g L M T w) (s : ST T ksEl 65 A n c) (hi : i < n) :
    ∃ x y a b d, A = some ⟨x, 0, none⟩ ∧ y.length ≤ 16 ∧ T x ≠ none ∧ x < w.heap.size ∧ w.cell? ⟨x, i * 4, none⟩ = some (.string (bs y)) ∧ w.cell? ⟨x, i * 4 + 1, none⟩ = some (.int .i64 a) ∧ w.cell? ⟨x, i * 4 + 2, none⟩ = some (.int .i64 b) ∧ w.cell? ⟨x, i * 4 + 3, none⟩ = some (.int .i64 d) := by
  obtain ⟨x, v, rfl, h1, h2, _, h3, h4⟩ := h.ts.load s hi (show ksEl[0]? = some .str from rfl)
  obtain ⟨x1, v1, e1, i1, j1, _⟩ := h.ts.load s hi (show ksEl[1]? = some .int from rfl)
  obtain ⟨x2, v2, e2, i2, j2, _⟩ := h.ts.load s hi (show ksEl[2]? = some .int from rfl)
  obtain ⟨x3, v3, e3, i3, j3, _⟩ := h.ts.load s hi (show ksEl[3]? = some .int from rfl)
  have f1 : x1 = x := (congrArg Addr.block (Option.some.inj e1)).symm
  have f2 : x2 = x := (congrArg Addr.block (Option.some.inj e2)).symm
  have f3 : x3 = x := (congrArg Addr.block (Option.some.inj e3)).symm
  subst f1 f2 f3
  obtain ⟨y, rfl, hy⟩ : IsStr v := h2
  obtain ⟨a, rfl⟩ := j1
  obtain ⟨b, rfl⟩ := j2
  obtain ⟨d, rfl⟩ := j3
  exact ⟨_, y, a, b, d, rfl, hy, h4, h3, h1, i1, i2, i3⟩

set_option maxRecDepth 100000 in
set_option maxHeartbeats 4000000 in
theorem cu.item_m (w0 w : World) (g M : Nat) (T : Typ) (A1 : Option Addr) (n1 c1 : Nat) (A2 : Option Addr) (n2 c2 : Nat) (r bo k f : Int) (h : DS w0 g 64 M T w) (hM : M ≤ 4611686018410000000) (hs : ST T ksEl 65 A1 n1 c1) (hn : 1 ≤ n1) (hn2 : n1 ≤ 25) :
    Calls Try.prog 87 #[.pointer (some ⟨g, 0, none⟩), .agg #[.slice A1 n1 c1, .slice A2 n2 c2, .int .i64 r, .int .i64 bo, .int .i64 k, .int .i64 f]] w fun e w' => ∃ (T' : Typ) (A1 : Option Addr) (n1 c1 : Nat) (A2 : Option Addr) (c2 : Nat) (q : Bool), e = .returned (.agg #[.slice A1 n1 c1, .slice A2 n1 c2, .bool q]) ∧ 1 ≤ n1 ∧ n1 ≤ 3 ∧ DF w0 w g 64 (M + 40) T T' w' ∧ ST T' [.str] 9 A1 n1 c1 ∧ ST T' [.int] 3 A2 n1 c2 := by
  have hg := h.cg
  obtain ⟨W0, hW0⟩ : ∃ W0, Hid (W0 = w.alloc (.cells #[.slice A1 n1 c1, .slice A2 n2 c2, .int .i64 r, .int .i64 bo, .int .i64 k, .int .i64 f] 27)) := ⟨_, rfl⟩
  have D0 : Hid (DF w0 w g 64 M T T W0) := by rw [hW0.out]; exact (DF.start h).ext (Ext.alloc _ _)
  have B0 : Hid (Bx g T W0 w.heap.size #[.slice A1 n1 c1, .slice A2 n2 c2, .int .i64 r, .int .i64 bo, .int .i64 k, .int .i64 f] 27) := by rw [hW0.out]; exact Bx.new h _ _
  have Z0 : Hid (W0.heap.size = w.heap.size + 1) := by rw [hW0.out]; show _ = _; simp
  have D1 := hide (D0.out.ext (Ext.alloc W0 (.cells #[.slice none 0 0, .slice none 0 0, .bool false] 43)))
  have B1 := hide (B0.out.ext (Ext.alloc W0 (.cells #[.slice none 0 0, .slice none 0 0, .bool false] 43)))
  have R1 := hide (Bx.newAt D0.out.ds Z0.out #[.slice none 0 0, .slice none 0 0, .bool false] 43)
  have HS := hide hs
  clear h hs D0 B0
  have cA := B1.out.cell 0
  have i0 := hide (D1.out.ds.ts.len HS.out)
  have i1 := i0.out.2.1
  have i2 := i0.out.2.2
  unfold maxLen at i2
  clear i0
  go_enter Try.func87, Try.ntmps87
  go_wp2
  rw [← hW0.out]
  clear hW0 cA
  go_loopw [11, 5] (fun s11 s5 wr => ∃ (k : Nat) (T' : Typ) (A : Option Addr) (c : Nat), s11 = .int .i64 k ∧ s5 = .slice A k c ∧ k ≤ n1 ∧ DF w0 w g 64 M T T' wr ∧ Bx g T' wr (w.heap.size + 1) #[.slice none 0 0, .slice none 0 0, .bool false] 43 ∧ ST T' [.str] 9 A k c) (fun s11 _ _ => n1 - (intOf s11).toNat)
  case atStart => exact ⟨0, T, none, 0, by go_num, rfl, by omega, D1.out, R1.out, ST.none_⟩
  case round =>
    clear D1 B1 R1
    obtain ⟨k, T1, A, c, rfl, rfl, hk, df, bx, st⟩ := hrel
    have D := hide df
    have B := hide bx
    have L := hide st
    clear df bx st
    by_cases hlt : k < n1
    · have hltz : (k : Int) < (n1 : Int) := by omega
      obtain ⟨x, y, a1, a2, a3, hA, hy, -, xl, e0, e1, e2, e3⟩ := D.out.ds.el4 (HS.out.mono D.out.sp.le) hlt
      subst hA
      have HY := hide hy
      clear hy
      have D2 := hide (D.out.ext (Ext.alloc wr (.cells #[.string (bs y), .int .i64 a1, .int .i64 a2, .int .i64 a3] 65)))
      have D3 := hide (D2.out.ext (Ext.alloc (wr.alloc (.cells #[.string (bs y), .int .i64 a1, .int .i64 a2, .int .i64 a3] 65)) (.cells #[.string (bs y)] 9)))
      have B3 := hide ((B.out.ext (Ext.alloc wr (.cells #[.string (bs y), .int .i64 a1, .int .i64 a2, .int .i64 a3] 65))).ext (Ext.alloc (wr.alloc (.cells #[.string (bs y), .int .i64 a1, .int .i64 a2, .int .i64 a3] 65)) (.cells #[.string (bs y)] 9)))
      go_wp2_with (at_builtin; refine wpList_append_T (ks := [.str]) (by rfl) (.tmp 15) (.tmp 18) (by rfl) elemN_str (by rfl) (by rfl) D3.out.ds.ts D3.out.ds.size L.out (by decide) (by rfl) (src1At (by simp) _ _) (el1 (k := .str) (isStr_of HY.out)) (by decide) (by omega) (by decide) (by omega) ?_; intro A5 c5 w8 T5 ap; have S7 := hide (D3.out.ds.app ap); have D8 := hide (D3.out.stp S7.out.2.1 S7.out.1); have B8 := hide (B3.out.stp S7.out.2.1); clear ap)
      go_roundw
      case rel => exact ⟨k + 1, T5, A5, c5, by go_num, rfl, by omega, D8.out, B8.out, S7.out.2.2⟩
      case measure => simp [intOf]; omega
    · obtain rfl : k = n1 := by omega
      go_wp2_with fail
      refine (cu.called_m w0 wr g M k c T1 A D.out.ds (by omega) L.out hn).mono ?_
      rintro e w2 ⟨T2, A3, n3, c3, A4, c4, q, rfl, m1, m2, f2, t1, t2⟩
      have D2 := hide (D.out.call f2)
      have B2 := hide (B.out.stp f2.sp)
      have T1h := hide t1
      have T2h := hide t2
      clear f2 t1 t2 D B L
      have q0 := B2.out.cell
      have f0 := B2.out.free
      go_wp2
      refine bodyPost_ret (v := .agg #[.slice A3 n3 c3, .slice A4 n3 c4, .bool q]) (by simp [results, Try.results87, go_sem, q0]) rfl ?_
      exact ⟨T2, A3, n3, c3, A4, c4, q, rfl, m1, m2, (D2.out.more (by omega)).put3 B2.out (by omega) _ _ _, T1h.out, T2h.out⟩
end Go.Proofs.Ytcngiipdffjkfaa
