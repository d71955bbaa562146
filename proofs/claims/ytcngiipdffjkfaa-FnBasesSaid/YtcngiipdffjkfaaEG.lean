/- Draws of items: any item. -/
import Derived.Test.YtcngiipdffjkfaaEE
import Derived.Deep.CutBlock
namespace Go.Proofs.Ytcngiipdffjkfaa
open Go.RowKit Go.Sort
set_option linter.unusedVariables false

theorem src1At {w : World} {H : Nat} (hH : w.heap.size = H) (u : Value) (t : TypeId) : ∀ j v, [u][j]? = some v → (w.alloc (.cells #[u] t)).cell? ⟨H, 0 + j, none⟩ = some v := by
  subst hH; exact src1 w u t
/-- A literal list of texts, typed. -/
theorem DS.litS {w0 w : World} {g M n : Nat} {T : Typ} (h : DS w0 g 64 M T w) (cs : Array Value) (hs : cs.size = n) (hn : n ≤ 25) (hy : ∀ v ∈ cs.toList, IsStr v) :
    ∃ T', DS w0 g 64 M T' (w.alloc (.cells cs 9)) ∧ Stp g T w T' (w.alloc (.cells cs 9)) ∧ ST T' [.str] 9 (some ⟨w.heap.size, 0, none⟩) n n := by
  refine h.lit _ n 9 [.str] (by omega) (by omega) (by simpa using hs) (fun i hi j k hk => ?_)
  obtain rfl : j = 0 := by have := (List.getElem?_eq_some_iff.1 hk).1; simp at this; omega
  simp at hk
  subst hk
  have hi2 : i < cs.size := by omega
  exact ⟨cs[i], by simp [hi2], hy _ (by simp)⟩
theorem cu.called_lit {w0 w : World} {g M n H : Nat} {T : Typ} {cs : Array Value} (h : DS w0 g 64 M T w) (hH : w.heap.size = H) (hM : M ≤ 4611686018420000000) (hs : cs.size = n) (hn : 1 ≤ n) (hn2 : n ≤ 25) (hy : ∀ v ∈ cs.toList, IsStr v) :
    Calls Try.prog 88 #[.pointer (some ⟨g, 0, none⟩), .slice (some ⟨H, 0, none⟩) n n] (w.alloc (.cells cs 9)) fun e w' => ∃ (T' : Typ) (A1 : Option Addr) (n1 c1 : Nat) (A2 : Option Addr) (c2 : Nat) (q : Bool), e = .returned (.agg #[.slice A1 n1 c1, .slice A2 n1 c2, .bool q]) ∧ 1 ≤ n1 ∧ n1 ≤ 3 ∧ DF w0 w g 64 (M + 30) T T' w' ∧ ST T' [.str] 9 A1 n1 c1 ∧ ST T' [.int] 3 A2 n1 c2 := by
  subst hH
  obtain ⟨T1, d, s, t⟩ := h.litS cs hs hn2 hy
  refine (cu.called_m w0 _ g M n n T1 _ d hM t hn).mono ?_
  rintro e w' ⟨T', A1, n1, c1, A2, c2, q, he, h1, h2, f, t1, t2⟩
  exact ⟨T', A1, n1, c1, A2, c2, q, he, h1, h2, ((DF.start h).stp s d).call f, t1, t2⟩
/-- A literal list of texts, of which one is drawn; the literal is laid, and the region's draw made. -/
theorem cu.of_lit {w0 w : World} {g M n H : Nat} {T : Typ} {cs : Array Value} (h : DS w0 g 64 M T w) (hH : w.heap.size = H) (hM : M ≤ 4611686018420000000) (hs : cs.size = n) (hn : 1 ≤ n) (hn2 : n ≤ 25) (hy : ∀ v ∈ cs.toList, IsStr v) :
    Calls Try.prog 72 #[.pointer (some ⟨g, 0, none⟩), .slice (some ⟨H, 0, none⟩) n n] (w.alloc (.cells cs 9)) fun e w' => ∃ y, e = .returned (.string (bs y)) ∧ y.length ≤ 16 ∧ Cur w' g (M + 2) ∧ TchF [g] w w' := by
  subst hH
  obtain ⟨T1, d, s, t⟩ := h.litS cs hs hn2 hy
  refine (cu.ofT d (by omega) t hn).mono ?_
  rintro e w' ⟨y, he, hy, c, k⟩
  exact ⟨y, he, hy, c, (TchF.of_ext (Ext.alloc w _)).trans k⟩
theorem cu.of_litD {w0 w : World} {g M n H : Nat} {T : Typ} {cs : Array Value} (h : DS w0 g 64 M T w) (hH : w.heap.size = H) (hM : M ≤ 4611686018420000000) (hs : cs.size = n) (hn : 1 ≤ n) (hn2 : n ≤ 25) (hy : ∀ v ∈ cs.toList, IsStr v) :
    Calls Try.prog 72 #[.pointer (some ⟨g, 0, none⟩), .slice (some ⟨H, 0, none⟩) n n] (w.alloc (.cells cs 9)).drew fun e w' => ∃ y, e = .returned (.string (bs y)) ∧ y.length ≤ 16 ∧ Cur w' g (M + 2) ∧ TchF [g] w w' := by
  subst hH
  obtain ⟨T1, d, s, t⟩ := h.litS cs hs hn2 hy
  refine (cu.ofT (d.ext (Ext.drew _)) (by omega) t hn).mono ?_
  rintro e w' ⟨y, he, hy, c, k⟩
  exact ⟨y, he, hy, c, (TchF.of_ext ((Ext.alloc w _).trans (Ext.drew _))).trans k⟩
section
variable {w0 ws w w' : World} {g M M' b : Nat} {Ts T T' : Typ} {A1 : Option Addr} {n1 c1 : Nat} {A2 : Option Addr} {n2 c2 : Nat} {q : Bool}
/-- A text stored into the item's names. -/
theorem ItU.putN (h : ItU w0 ws g M Ts T w b A1 n1 c1 A2 n2 c2 q) {x i : Nat} (hx : A1 = some ⟨x, 0, none⟩) (hi : i < n1) {y : List UInt8} (hy : y.length ≤ 16) : ItU w0 ws g M Ts T (w.setCell ⟨x, i, none⟩ (.string (bs y))) b A1 n1 c1 A2 n2 c2 q := by
  obtain ⟨x', m, e, hT, hm⟩ := h.s1.pos (by omega)
  rw [hx] at e
  simp at e
  subst e
  have d := h.df.store hT (i := i) (j := 0) (k := .str) rfl (isStr_of hy)
  have e2 : i * ([VK.str] : List VK).length + 0 = i := by simp
  rw [e2] at d
  exact ⟨d, h.b0.store (by rw [hT]; simp) _ _, h.bb.store (by rw [hT]; simp) _ _, h.s1, h.s2, h.hb⟩
theorem ItU.putM (h : ItU w0 ws g M Ts T w b A1 n1 c1 A2 n2 c2 q) {x i : Nat} (hx : A2 = some ⟨x, 0, none⟩) (hi : i < n2) (z : Int) : ItU w0 ws g M Ts T (w.setCell ⟨x, i, none⟩ (.int .i64 z)) b A1 n1 c1 A2 n2 c2 q := by
  obtain ⟨x', m, e, hT, hm⟩ := h.s2.pos (by omega)
  rw [hx] at e
  simp at e
  subst e
  have d := h.df.store hT (i := i) (j := 0) (k := .int) rfl ⟨z, rfl⟩
  have e2 : i * ([VK.int] : List VK).length + 0 = i := by simp
  rw [e2] at d
  exact ⟨d, h.b0.store (by rw [hT]; simp) _ _, h.bb.store (by rw [hT]; simp) _ _, h.s1, h.s2, h.hb⟩
theorem ItU.clear (h : ItU w0 ws g M Ts T w b A1 n1 c1 A2 n2 c2 q) : ItU w0 ws g M Ts T (((w.setCell ⟨b, 0, none⟩ (.slice none 0 0)).setCell ⟨b, 1, none⟩ (.slice none 0 0)).setCell ⟨b, 2, none⟩ (.bool false)) b none 0 0 none 0 0 false := by
  have hb := h.hb
  have ne : ws.heap.size ≠ b := by omega
  exact ⟨h.df.put3 h.bb (by omega) _ _ _, ((h.b0.far ne _).far ne _).far ne _, ((h.bb.set 0 _).set 1 _).set 2 _, ST.none_, ST.none_, hb⟩
/-- What the item's first name (mark) is stored into. -/
theorem ItU.firstN (h : ItU w0 ws g M Ts T w b A1 n1 c1 A2 n2 c2 q) (hn : 0 < n1) : ∃ x y, A1 = some ⟨x, 0, none⟩ ∧ w.cell? ⟨x, 0, none⟩ = some (.string (bs y)) ∧ (∀ j, w.frozen? ⟨x, j, none⟩ = false) ∧ T x ≠ none ∧ x ≠ b ∧ x ≠ g ∧ x < w.heap.size := by
  obtain ⟨x, v, e, h1, h2, h3, h4, h5⟩ := h.df.ds.ts.load h.s1 hn (show [VK.str][0]? = some .str from rfl)
  obtain ⟨y, rfl, _⟩ : IsStr v := h2
  exact ⟨x, y, e, by simpa using h1, h.df.ds.ts.free h5, h5, fun e => h5 (by rw [e]; exact h.bb.hT), (h.df.ds.lo h5).2.2, h4⟩
theorem ItU.firstM (h : ItU w0 ws g M Ts T w b A1 n1 c1 A2 n2 c2 q) (hn : 0 < n2) : ∃ x z, A2 = some ⟨x, 0, none⟩ ∧ w.cell? ⟨x, 0, none⟩ = some (.int .i64 z) ∧ (∀ j, w.frozen? ⟨x, j, none⟩ = false) ∧ T x ≠ none ∧ x ≠ b ∧ x ≠ g ∧ x < w.heap.size := by
  obtain ⟨x, v, e, h1, h2, h3, h4, h5⟩ := h.df.ds.ts.load h.s2 hn (show [VK.int][0]? = some .int from rfl)
  obtain ⟨z, rfl⟩ := h2
  exact ⟨x, z, e, by simpa using h1, h.df.ds.ts.free h5, h5, fun e => h5 (by rw [e]; exact h.bb.hT), (h.df.ds.lo h5).2.2, h4⟩
end

set_option maxRecDepth 100000 in
set_option maxHeartbeats 4000000 in
theorem cu.anyItem_m (w0 w : World) (g M : Nat) (T : Typ) (h : DS w0 g 64 M T w) (hM : M ≤ 4611686018410000000) :
    Calls Try.prog 78 #[.pointer (some ⟨g, 0, none⟩)] w fun e w' => ∃ (T' : Typ) (A1 : Option Addr) (n1 c1 : Nat) (A2 : Option Addr) (n2 c2 : Nat) (q : Bool), e = .returned (.agg #[.slice A1 n1 c1, .slice A2 n2 c2, .bool q]) ∧ n1 ≤ 4 ∧ n2 ≤ 4 ∧ DF w0 w g 64 (M + 100) T T' w' ∧ ST T' [.str] 9 A1 n1 c1 ∧ ST T' [.int] 3 A2 n2 c2 := by
  have hg := h.cg
  have D0 := hide ((DF.start h).ext (Ext.alloc w (.cells #[.slice none 0 0, .slice none 0 0, .bool false] 43)))
  have B0 := hide (Bx.new h #[.slice none 0 0, .slice none 0 0, .bool false] 43)
  clear h
  go_enter Try.func78, Try.ntmps78
  go_wp2_with fail
  refine (cu.called_lit (n := 7) D0.out.ds (by simp) (by omega) (by rfl) (by decide) (by decide) ?_).mono ?_
  · intro v hv
    simp only [List.mem_cons, List.not_mem_nil, or_false] at hv
    rcases hv with h | h | h | h | h | h | h <;> subst h <;> exact ⟨_, rfl, by decide⟩
  rintro e w2 ⟨T2, A1, n1, c1, A2, c2, q, rfl, m1, m2, f2, t1, t2⟩
  have D2 := hide (D0.out.call f2)
  have B2 := hide (B0.out.stp f2.sp)
  obtain ⟨b, hb⟩ : ∃ b, Hid (w2.heap.size = b) := ⟨_, rfl⟩
  have U := hide (ItU.mk (D2.out.ext (Ext.alloc w2 (.cells #[.slice A1 n1 c1, .slice A2 n1 c2, .bool q] 43))) (B2.out.ext (Ext.alloc _ _)) (Bx.newAt D2.out.ds hb.out _ _) t1 t2 (by have := B2.out.lt; have := hb.out; omega))
  clear f2 t1 t2 D2 B2 D0 B0
  go_wp2_with fail
  refine (cu.pick_m _ g _ 24 U.out.df.ds.cu (by omega) (by unfold InR; omega)).mono ?_
  rintro e w3 ⟨r, rfl, r0, r1, -, c3, k3⟩
  have V := hide (U.out.curs k3 c3)
  clear c3 k3 U r1
  rw [hb.out]
  clear hb
  go_upto_block 0 with fail
  go_cut [] (fun wx => ∃ (T' : Typ) (A1 : Option Addr) (n1 c1 : Nat) (A2 : Option Addr) (n2 c2 : Nat) (q : Bool), n1 ≤ 4 ∧ n2 ≤ 4 ∧ ItU w0 w g (M + 60) T T' wx b A1 n1 c1 A2 n2 c2 q)
  case first =>
      have cA := V.out.cN
      have cM := V.out.cM
      have bl := V.out.bb.lt
      have mp : 0 < n1 := m1
      by_cases h0 : r = 0
      · subst h0
        obtain ⟨x, y0, rfl, cx, fx, -, xb, xg, xl⟩ := V.out.firstN (by omega)
        go_wp2_with fail
        go_region_law (go_simp; go_at_call 72; refine (cu.of_litD (n := 6) V.out.df.ds rfl (by omega) (by rfl) (by decide) (by decide) (by intro v hv; simp only [List.mem_cons, List.not_mem_nil, or_false] at hv; rcases hv with h | h | h | h | h | h <;> subst h <;> first | exact ⟨[], rfl, by decide⟩ | exact ⟨_, rfl, by decide⟩)).mono ?_; rintro e w5 ⟨y, rfl, hy, c5, k5⟩; have U1 := hide (V.out.curs k5 c5); have HY := hide hy; have cB := U1.out.cN; obtain ⟨x1, y1, ex, cx1, fx1, -⟩ := U1.out.firstN (by omega); obtain rfl : x1 = x := (congrArg Addr.block (Option.some.inj ex)).symm; clear c5 k5 hy)
        all_goals
          go_wp2
          go_meet
          exact ⟨T2, _, n1, c1, A2, n1, c2, q, by omega, by omega, (U1.out.putN rfl (by omega) HY.out).more (by omega)⟩
      have e0 : (r == 0) = false := by simp [h0]
      by_cases h1 : r = 1
      · subst h1
        obtain ⟨x, z0, rfl, cx, fx, -, xb, xg, xl⟩ := V.out.firstM (by omega)
        go_wp2_with fail
        go_region_law (go_simp; go_at_call 73; refine (cu.amongT V.out.df.ds (by omega) [-1, 3, 4] (by decide) (by decide) ((Ext.alloc w3 (.cells #[.int .i64 (-1), .int .i64 3, .int .i64 4] 3)).trans (Ext.drew _)) (Blk.new rfl _ _) (by have := V.out.df.ds.cg; omega) _).mono ?_; rintro e w5 ⟨z, rfl, -, c5, k5⟩; have U1 := hide (V.out.step ((Ext.alloc w3 (.cells #[.int .i64 (-1), .int .i64 3, .int .i64 4] 3)).trans (Ext.drew _)) k5 c5); have cB := U1.out.cM; obtain ⟨x1, y1, ex, cx1, fx1, -⟩ := U1.out.firstM (by omega); obtain rfl : x1 = x := (congrArg Addr.block (Option.some.inj ex)).symm; clear c5 k5)
        all_goals
          go_wp2
          go_meet
          exact ⟨T2, A1, n1, c1, _, n1, c2, q, by omega, by omega, (U1.out.putM rfl (by omega) z).more (by omega)⟩
      have e1 : (r == 1) = false := by simp [h1]
      by_cases h2 : r = 2
      · subst h2
        have U5 := hide (V.out.ext (Ext.alloc w3 (.cells #[.int .i64 0] 3)))
        go_wp2_with (at_builtin; refine wpList_append_T (ks := [.int]) (by rfl) (.tmp 29) (.tmp 30) (by rfl) elemN_ints (by rfl) (by rfl) U5.out.df.ds.ts U5.out.df.ds.size U5.out.s2 (by decide) (by rfl) (src1 w3 _ _) (el1 (k := .int) ⟨0, rfl⟩) (by decide) (by omega) (by decide) (by omega) ?_; intro A5 c5 w8 T5 ap; have S7 := hide (U5.out.appM ap); have fD := S7.out.1.free 1; have cD := S7.out.1.cM; clear ap U5)
        go_meet
        exact ⟨T5, A1, n1, c1, A5, n1 + 1, c5, q, by omega, by omega, S7.out.2.more (by omega)⟩
      have e2 : (r == 2) = false := by simp [h2]
      by_cases h3 : r = 3
      · subst h3
        go_wp2_with fail
        refine (cu.pick_m w3 g _ 2 V.out.df.ds.cu (by omega) (by unfold InR; omega)).mono ?_
        rintro e w5 ⟨z, rfl, z0, z1, -, c5, k5⟩
        have z2 := z1 (by omega)
        have U1 := hide (V.out.curs k5 c5)
        clear c5 k5 z1 V cA cM bl
        go_wp2
        go_loopw [] (fun wr => ∃ (k : Nat) (T' : Typ) (A1 : Option Addr) (c1 : Nat) (A2 : Option Addr) (c2 : Nat), k ≤ 4 ∧ ItU w0 w g (M + 30 + 2 + 2) T T' wr b A1 k c1 A2 k c2 q) (fun wr => 4 - lenAt wr b 0)
        case atStart => exact ⟨n1, T2, A1, c1, A2, c2, by omega, U1.out⟩
        case round =>
          clear U1
          obtain ⟨k, T3, A1, c1, A2, c2, hk, st⟩ := hrel
          have U1 := hide st
          clear st
          have cA := U1.out.cN
          have bl := U1.out.bb.lt
          by_cases hlt : (k : Int) < 3 + z
          · have U2 := hide (U1.out.ext (Ext.alloc wr (.cells #[.string { data := #[49, 84] }] 9)))
            have cB := U2.out.cN
            go_wp2_with (first
              | (at_builtin; refine wpList_append_T (ks := [.str]) (by rfl) (.tmp 44) (.tmp 45) (by rfl) elemN_str (by rfl) (by rfl) U2.out.df.ds.ts U2.out.df.ds.size U2.out.s1 (by decide) (by rfl) (src1 wr _ _) (el1 (k := .str) (show IsStr _ from ⟨_, rfl, by decide⟩)) (by decide) (by omega) (by decide) (by omega) ?_; intro A5 c5 w8 T5 ap; have S7 := hide (U2.out.appN ap); have fD := S7.out.1.free 0; have cD := S7.out.1.cN; have cF := S7.out.1.cM; have U9 := hide (S7.out.2.ext (Ext.alloc (w8.setCell ⟨b, 0, none⟩ (.slice A5 (k + 1) c5)) (.cells #[.int .i64 1] 3))); clear ap)
              | (at_builtin; refine wpList_append_T (ks := [.int]) (by rfl) (.tmp 49) (.tmp 50) (by rfl) elemN_ints (by rfl) (by rfl) U9.out.df.ds.ts U9.out.df.ds.size U9.out.s2 (by decide) (by rfl) (src1At (by simp [World.setCell]) _ _) (el1 (k := .int) ⟨1, rfl⟩) (by decide) (by omega) (by decide) (by omega) ?_; intro A6 c6 w9 T6 ap; have S9 := hide (U9.out.appM ap); have fE := S9.out.1.free 1; have cE := S9.out.1.cM; clear ap))
            go_roundw
            case rel => exact ⟨k + 1, T6, A5, c5, A6, c6, by omega, S9.out.2⟩
            case measure =>
              rw [lenAt_of cA, lenAt_of S9.out.2.cN]
              omega
          · go_wp2
            go_meet
            exact ⟨T3, A1, k, c1, A2, k, c2, q, hk, hk, U1.out.more (by omega)⟩
      have e3 : (r == 3) = false := by simp [h3]
      by_cases h4 : r = 4
      · subst h4
        have q5 := V.out.bb.cell
        have f5 := V.out.bb.free
        go_wp2
        go_meet
        exact ⟨T2, none, 0, 0, none, 0, 0, false, by omega, by omega, V.out.clear.more (by omega)⟩
      have e4 : (r == 4) = false := by simp [h4]
      go_wp2
      go_meet
      exact ⟨T2, A1, n1, c1, A2, n1, c2, q, by omega, by omega, V.out.more (by omega)⟩
  case rest =>
      obtain ⟨T3, A1, n1, c1, A2, n2, c2, q, m1, m2, st⟩ := hcut
      have U1 := hide st
      clear st V
      have q0 := U1.out.b0.cell
      have f0 := U1.out.b0.free
      have q5 := U1.out.bb.cell
      go_wp2
      refine bodyPost_ret (v := .agg #[.slice A1 n1 c1, .slice A2 n2 c2, .bool q]) (by simp [results, Try.results78, go_sem, q0]) rfl ?_
      exact ⟨T3, A1, n1, c1, A2, n2, c2, q, rfl, m1, m2, (U1.out.df.more (by omega)).put3 U1.out.b0 (Nat.le_refl _) _ _ _, U1.out.s1, U1.out.s2⟩
end Go.Proofs.Ytcngiipdffjkfaa
