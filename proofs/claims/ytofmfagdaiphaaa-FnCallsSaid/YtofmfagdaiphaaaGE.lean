/- GE: EG, EH, EI, EJ in one text. -/
import Derived.Test.YtofmfagdaiphaaaEE
import Derived.Deep.CutBlock
/- Draws of items: any item. -/
namespace Go.Proofs.Ytofmfagdaiphaaa
open Go.RowKit Go.Sort
set_option linter.unusedVariables false

theorem src1At {w : World} {H : Nat} (hH : w.heap.size = H) (u : Value) (t : TypeId) : ∀ j v, [u][j]? = some v → (w.alloc (.cells #[u] t)).cell? ⟨H, 0 + j, none⟩ = some v := by
  subst hH; exact src1 w u t
/-- A literal list of texts, typed. -/
theorem DS.litS {w0 w : World} {g M n : Nat} {T : Typ} (h : DS w0 g 64 M T w) (cs : Array Value) (hs : cs.size = n) (hn : n ≤ 25) (hy : ∀ v ∈ cs.toList, IsStr v) :
    ∃ T', DS w0 g 64 M T' (w.alloc (.cells cs 9)) ∧ Stp g T w T' (w.alloc (.cells cs 9)) ∧ ST T' [.str] 9 (some ⟨w.heap.size, 0, none⟩) n n := by
  refine h.lit _ n 9 [.str] (by omega) (by omega) (by simpa using hs) (fun i hi j k hk => ?_)
  obtain rfl : j = 0 := by have := (List.getElem?_eq_some_iff.1 hk).1; simp at this; omega
  simp at hk
  subst hk
  have hi2 : i < cs.size := by omega
  exact ⟨cs[i], by simp [hi2], hy _ (by simp)⟩
theorem cu.called_lit {w0 w : World} {g M n H : Nat} {T : Typ} {cs : Array Value} (h : DS w0 g 64 M T w) (hH : w.heap.size = H) (hM : M ≤ 4611686018420000000) (hs : cs.size = n) (hn : 1 ≤ n) (hn2 : n ≤ 25) (hy : ∀ v ∈ cs.toList, IsStr v) :
    Calls Try.prog 73 #[.pointer (some ⟨g, 0, none⟩), .slice (some ⟨H, 0, none⟩) n n] (w.alloc (.cells cs 9)) fun e w' => ∃ (T' : Typ) (A1 : Option Addr) (n1 c1 : Nat) (A2 : Option Addr) (c2 : Nat) (q : Bool), e = .returned (.agg #[.slice A1 n1 c1, .slice A2 n1 c2, .bool q]) ∧ 1 ≤ n1 ∧ n1 ≤ 3 ∧ DF w0 w g 64 (M + 30) T T' w' ∧ ST T' [.str] 9 A1 n1 c1 ∧ ST T' [.int] 3 A2 n1 c2 := by
  subst hH
  obtain ⟨T1, d, s, t⟩ := h.litS cs hs hn2 hy
  refine (cu.called_m w0 _ g M n n T1 _ d hM t hn).mono ?_
  rintro e w' ⟨T', A1, n1, c1, A2, c2, q, he, h1, h2, f, t1, t2⟩
  exact ⟨T', A1, n1, c1, A2, c2, q, he, h1, h2, ((DF.start h).stp s d).call f, t1, t2⟩
/-- A literal list of texts, of which one is drawn; the literal is laid, and the region's draw made. -/
theorem cu.of_lit {w0 w : World} {g M n H : Nat} {T : Typ} {cs : Array Value} (h : DS w0 g 64 M T w) (hH : w.heap.size = H) (hM : M ≤ 4611686018420000000) (hs : cs.size = n) (hn : 1 ≤ n) (hn2 : n ≤ 25) (hy : ∀ v ∈ cs.toList, IsStr v) :
    Calls Try.prog 90 #[.pointer (some ⟨g, 0, none⟩), .slice (some ⟨H, 0, none⟩) n n] (w.alloc (.cells cs 9)) fun e w' => ∃ y, e = .returned (.string (bs y)) ∧ y.length ≤ 16 ∧ Cur w' g (M + 2) ∧ TchF [g] w w' := by
  subst hH
  obtain ⟨T1, d, s, t⟩ := h.litS cs hs hn2 hy
  refine (cu.ofT d (by omega) t hn).mono ?_
  rintro e w' ⟨y, he, hy, c, k⟩
  exact ⟨y, he, hy, c, (TchF.of_ext (Ext.alloc w _)).trans k⟩
theorem cu.of_litD {w0 w : World} {g M n H : Nat} {T : Typ} {cs : Array Value} (h : DS w0 g 64 M T w) (hH : w.heap.size = H) (hM : M ≤ 4611686018420000000) (hs : cs.size = n) (hn : 1 ≤ n) (hn2 : n ≤ 25) (hy : ∀ v ∈ cs.toList, IsStr v) :
    Calls Try.prog 90 #[.pointer (some ⟨g, 0, none⟩), .slice (some ⟨H, 0, none⟩) n n] (w.alloc (.cells cs 9)).drew fun e w' => ∃ y, e = .returned (.string (bs y)) ∧ y.length ≤ 16 ∧ Cur w' g (M + 2) ∧ TchF [g] w w' := by
  subst hH
  obtain ⟨T1, d, s, t⟩ := h.litS cs hs hn2 hy
  refine (cu.ofT (d.ext (Ext.drew _)) (by omega) t hn).mono ?_
  rintro e w' ⟨y, he, hy, c, k⟩
  exact ⟨y, he, hy, c, (TchF.of_ext ((Ext.alloc w _).trans (Ext.drew _))).trans k⟩
section
variable {w0 ws w w' : World} {g M M' b : Nat} {Ts T T' : Typ} {A1 : Option Addr} {n1 c1 : Nat} {A2 : Option Addr} {n2 c2 : Nat} {q : Bool}
/-- A text stored into the item's names. -/
theorem ItU.putN (h : ItU w0 ws g M Ts T w b A1 n1 c1 A2 n2 c2 q) {x i : Nat} (hx : A1 = some ⟨x, 0, none⟩) (hi : i < n1) {y : List UInt8} (hy : y.length ≤ 16) : ItU w0 ws g M Ts T (w.setCell ⟨x, i, none⟩ (.string (bs y))) b A1 n1 c1 A2 n2 c2 q := by
  obtain ⟨x', m, e, hT, hm⟩ := h.s1.pos (by omega)
  rw [hx] at e
  simp at e
  subst e
  have d := h.df.store hT (i := i) (j := 0) (k := .str) rfl (isStr_of hy)
  have e2 : i * ([VK.str] : List VK).length + 0 = i := by simp
  rw [e2] at d
  exact ⟨d, h.b0.store (by rw [hT]; simp) _ _, h.bb.store (by rw [hT]; simp) _ _, h.s1, h.s2, h.hb⟩
theorem ItU.putM (h : ItU w0 ws g M Ts T w b A1 n1 c1 A2 n2 c2 q) {x i : Nat} (hx : A2 = some ⟨x, 0, none⟩) (hi : i < n2) (z : Int) : ItU w0 ws g M Ts T (w.setCell ⟨x, i, none⟩ (.int .i64 z)) b A1 n1 c1 A2 n2 c2 q := by
  obtain ⟨x', m, e, hT, hm⟩ := h.s2.pos (by omega)
  rw [hx] at e
  simp at e
  subst e
  have d := h.df.store hT (i := i) (j := 0) (k := .int) rfl ⟨z, rfl⟩
  have e2 : i * ([VK.int] : List VK).length + 0 = i := by simp
  rw [e2] at d
  exact ⟨d, h.b0.store (by rw [hT]; simp) _ _, h.bb.store (by rw [hT]; simp) _ _, h.s1, h.s2, h.hb⟩
theorem ItU.clear (h : ItU w0 ws g M Ts T w b A1 n1 c1 A2 n2 c2 q) : ItU w0 ws g M Ts T (((w.setCell ⟨b, 0, none⟩ (.slice none 0 0)).setCell ⟨b, 1, none⟩ (.slice none 0 0)).setCell ⟨b, 2, none⟩ (.bool false)) b none 0 0 none 0 0 false := by
  have hb := h.hb
  have ne : ws.heap.size ≠ b := by omega
  exact ⟨h.df.put3 h.bb (by omega) _ _ _, ((h.b0.far ne _).far ne _).far ne _, ((h.bb.set 0 _).set 1 _).set 2 _, ST.none_, ST.none_, hb⟩
/-- What the item's first name (mark) is stored into. -/
theorem ItU.firstN (h : ItU w0 ws g M Ts T w b A1 n1 c1 A2 n2 c2 q) (hn : 0 < n1) : ∃ x y, A1 = some ⟨x, 0, none⟩ ∧ w.cell? ⟨x, 0, none⟩ = some (.string (bs y)) ∧ (∀ j, w.frozen? ⟨x, j, none⟩ = false) ∧ T x ≠ none ∧ x ≠ b ∧ x ≠ g ∧ x < w.heap.size := by
  obtain ⟨x, v, e, h1, h2, h3, h4, h5⟩ := h.df.ds.ts.load h.s1 hn (show [VK.str][0]? = some .str from rfl)
  obtain ⟨y, rfl, _⟩ : IsStr v := h2
  exact ⟨x, y, e, by simpa using h1, h.df.ds.ts.free h5, h5, fun e => h5 (by rw [e]; exact h.bb.hT), (h.df.ds.lo h5).2.2, h4⟩
theorem ItU.firstM (h : ItU w0 ws g M Ts T w b A1 n1 c1 A2 n2 c2 q) (hn : 0 < n2) : ∃ x z, A2 = some ⟨x, 0, none⟩ ∧ w.cell? ⟨x, 0, none⟩ = some (.int .i64 z) ∧ (∀ j, w.frozen? ⟨x, j, none⟩ = false) ∧ T x ≠ none ∧ x ≠ b ∧ x ≠ g ∧ x < w.heap.size := by
  obtain ⟨x, v, e, h1, h2, h3, h4, h5⟩ := h.df.ds.ts.load h.s2 hn (show [VK.int][0]? = some .int from rfl)
  obtain ⟨z, rfl⟩ := h2
  exact ⟨x, z, e, by simpa using h1, h.df.ds.ts.free h5, h5, fun e => h5 (by rw [e]; exact h.bb.hT), (h.df.ds.lo h5).2.2, h4⟩
end

set_option maxRecDepth 100000 in
set_option maxHeartbeats 4000000 in
theorem cu.anyItem_m (w0 w : World) (g M : Nat) (T : Typ) (h : DS w0 g 64 M T w) (hM : M ≤ 4611686018410000000) :
    Calls Try.prog 80 #[.pointer (some ⟨g, 0, none⟩)] w fun e w' => ∃ (T' : Typ) (A1 : Option Addr) (n1 c1 : Nat) (A2 : Option Addr) (n2 c2 : Nat) (q : Bool), e = .returned (.agg #[.slice A1 n1 c1, .slice A2 n2 c2, .bool q]) ∧ n1 ≤ 4 ∧ n2 ≤ 4 ∧ DF w0 w g 64 (M + 100) T T' w' ∧ ST T' [.str] 9 A1 n1 c1 ∧ ST T' [.int] 3 A2 n2 c2 := by
  have hg := h.cg
  have D0 := hide ((DF.start h).ext (Ext.alloc w (.cells #[.slice none 0 0, .slice none 0 0, .bool false] 50)))
  have B0 := hide (Bx.new h #[.slice none 0 0, .slice none 0 0, .bool false] 50)
  clear h
  go_enter Try.func80, Try.ntmps80
  go_wp2_with fail
  refine (cu.called_lit (n := 7) D0.out.ds (by simp) (by omega) (by rfl) (by decide) (by decide) ?_).mono ?_
  · intro v hv
    simp only [List.mem_cons, List.not_mem_nil, or_false] at hv
    rcases hv with h | h | h | h | h | h | h <;> subst h <;> exact ⟨_, rfl, by decide⟩
  rintro e w2 ⟨T2, A1, n1, c1, A2, c2, q, rfl, m1, m2, f2, t1, t2⟩
  have D2 := hide (D0.out.call f2)
  have B2 := hide (B0.out.stp f2.sp)
  obtain ⟨b, hb⟩ : ∃ b, Hid (w2.heap.size = b) := ⟨_, rfl⟩
  have U := hide (ItU.mk (D2.out.ext (Ext.alloc w2 (.cells #[.slice A1 n1 c1, .slice A2 n1 c2, .bool q] 50))) (B2.out.ext (Ext.alloc _ _)) (Bx.newAt D2.out.ds hb.out _ _) t1 t2 (by have := B2.out.lt; have := hb.out; omega))
  clear f2 t1 t2 D2 B2 D0 B0
  go_wp2_with fail
  refine (cu.pick_m _ g _ 24 U.out.df.ds.cu (by omega) (by unfold InR; omega)).mono ?_
  rintro e w3 ⟨r, rfl, r0, r1, -, c3, k3⟩
  have V := hide (U.out.curs k3 c3)
  clear c3 k3 U r1
  rw [hb.out]
  clear hb
  go_upto_block 0 with fail
  go_cut [] (fun wx => ∃ (T' : Typ) (A1 : Option Addr) (n1 c1 : Nat) (A2 : Option Addr) (n2 c2 : Nat) (q : Bool), n1 ≤ 4 ∧ n2 ≤ 4 ∧ ItU w0 w g (M + 60) T T' wx b A1 n1 c1 A2 n2 c2 q)
  case first =>
      have cA := V.out.cN
      have cM := V.out.cM
      have bl := V.out.bb.lt
      have mp : 0 < n1 := m1
      by_cases h0 : r = 0
      · subst h0
        obtain ⟨x, y0, rfl, cx, fx, -, xb, xg, xl⟩ := V.out.firstN (by omega)
        go_wp2_with fail
        go_region_law (go_simp; go_at_call 90; refine (cu.of_litD (n := 6) V.out.df.ds rfl (by omega) (by rfl) (by decide) (by decide) (by intro v hv; simp only [List.mem_cons, List.not_mem_nil, or_false] at hv; rcases hv with h | h | h | h | h | h <;> subst h <;> first | exact ⟨[], rfl, by decide⟩ | exact ⟨_, rfl, by decide⟩)).mono ?_; rintro e w5 ⟨y, rfl, hy, c5, k5⟩; have U1 := hide (V.out.curs k5 c5); have HY := hide hy; have cB := U1.out.cN; obtain ⟨x1, y1, ex, cx1, fx1, -⟩ := U1.out.firstN (by omega); obtain rfl : x1 = x := (congrArg Addr.block (Option.some.inj ex)).symm; clear c5 k5 hy)
        all_goals
          go_wp2
          go_meet
          exact ⟨T2, _, n1, c1, A2, n1, c2, q, by omega, by omega, (U1.out.putN rfl (by omega) HY.out).more (by omega)⟩
      have e0 : (r == 0) = false := by simp [h0]
      by_cases h1 : r = 1
      · subst h1
        obtain ⟨x, z0, rfl, cx, fx, -, xb, xg, xl⟩ := V.out.firstM (by omega)
        go_wp2_with fail
        go_region_law (go_simp; go_at_call 74; refine (cu.amongT V.out.df.ds (by omega) [-1, 3, 4] (by decide) (by decide) ((Ext.alloc w3 (.cells #[.int .i64 (-1), .int .i64 3, .int .i64 4] 3)).trans (Ext.drew _)) (Blk.new rfl _ _) (by have := V.out.df.ds.cg; omega) _).mono ?_; rintro e w5 ⟨z, rfl, -, c5, k5⟩; have U1 := hide (V.out.step ((Ext.alloc w3 (.cells #[.int .i64 (-1), .int .i64 3, .int .i64 4] 3)).trans (Ext.drew _)) k5 c5); have cB := U1.out.cM; obtain ⟨x1, y1, ex, cx1, fx1, -⟩ := U1.out.firstM (by omega); obtain rfl : x1 = x := (congrArg Addr.block (Option.some.inj ex)).symm; clear c5 k5)
        all_goals
          go_wp2
          go_meet
          exact ⟨T2, A1, n1, c1, _, n1, c2, q, by omega, by omega, (U1.out.putM rfl (by omega) z).more (by omega)⟩
      have e1 : (r == 1) = false := by simp [h1]
      by_cases h2 : r = 2
      · subst h2
        have U5 := hide (V.out.ext (Ext.alloc w3 (.cells #[.int .i64 0] 3)))
        go_wp2_with (at_builtin; refine wpList_append_T (ks := [.int]) (by rfl) (.tmp 29) (.tmp 30) (by rfl) elemN_ints (by rfl) (by rfl) U5.out.df.ds.ts U5.out.df.ds.size U5.out.s2 (by decide) (by rfl) (src1 w3 _ _) (el1 (k := .int) ⟨0, rfl⟩) (by decide) (by omega) (by decide) (by omega) ?_; intro A5 c5 w8 T5 ap; have S7 := hide (U5.out.appM ap); have fD := S7.out.1.free 1; have cD := S7.out.1.cM; clear ap U5)
        go_meet
        exact ⟨T5, A1, n1, c1, A5, n1 + 1, c5, q, by omega, by omega, S7.out.2.more (by omega)⟩
      have e2 : (r == 2) = false := by simp [h2]
      by_cases h3 : r = 3
      · subst h3
        go_wp2_with fail
        refine (cu.pick_m w3 g _ 2 V.out.df.ds.cu (by omega) (by unfold InR; omega)).mono ?_
        rintro e w5 ⟨z, rfl, z0, z1, -, c5, k5⟩
        have z2 := z1 (by omega)
        have U1 := hide (V.out.curs k5 c5)
        clear c5 k5 z1 V cA cM bl
        go_wp2
        go_loopw [] (fun wr => ∃ (k : Nat) (T' : Typ) (A1 : Option Addr) (c1 : Nat) (A2 : Option Addr) (c2 : Nat), k ≤ 4 ∧ ItU w0 w g (M + 30 + 2 + 2) T T' wr b A1 k c1 A2 k c2 q) (fun wr => 4 - lenAt wr b 0)
        case atStart => exact ⟨n1, T2, A1, c1, A2, c2, by omega, U1.out⟩
        case round =>
          clear U1
          obtain ⟨k, T3, A1, c1, A2, c2, hk, st⟩ := hrel
          have U1 := hide st
          clear st
          have cA := U1.out.cN
          have bl := U1.out.bb.lt
          by_cases hlt : (k : Int) < 3 + z
          · have U2 := hide (U1.out.ext (Ext.alloc wr (.cells #[.string { data := #[49, 84] }] 9)))
            have cB := U2.out.cN
            go_wp2_with (first
              | (at_builtin; refine wpList_append_T (ks := [.str]) (by rfl) (.tmp 44) (.tmp 45) (by rfl) elemN_str (by rfl) (by rfl) U2.out.df.ds.ts U2.out.df.ds.size U2.out.s1 (by decide) (by rfl) (src1 wr _ _) (el1 (k := .str) (show IsStr _ from ⟨_, rfl, by decide⟩)) (by decide) (by omega) (by decide) (by omega) ?_; intro A5 c5 w8 T5 ap; have S7 := hide (U2.out.appN ap); have fD := S7.out.1.free 0; have cD := S7.out.1.cN; have cF := S7.out.1.cM; have U9 := hide (S7.out.2.ext (Ext.alloc (w8.setCell ⟨b, 0, none⟩ (.slice A5 (k + 1) c5)) (.cells #[.int .i64 1] 3))); clear ap)
              | (at_builtin; refine wpList_append_T (ks := [.int]) (by rfl) (.tmp 49) (.tmp 50) (by rfl) elemN_ints (by rfl) (by rfl) U9.out.df.ds.ts U9.out.df.ds.size U9.out.s2 (by decide) (by rfl) (src1At (by simp [World.setCell]) _ _) (el1 (k := .int) ⟨1, rfl⟩) (by decide) (by omega) (by decide) (by omega) ?_; intro A6 c6 w9 T6 ap; have S9 := hide (U9.out.appM ap); have fE := S9.out.1.free 1; have cE := S9.out.1.cM; clear ap))
            go_roundw
            case rel => exact ⟨k + 1, T6, A5, c5, A6, c6, by omega, S9.out.2⟩
            case measure =>
              rw [lenAt_of cA, lenAt_of S9.out.2.cN]
              omega
          · go_wp2
            go_meet
            exact ⟨T3, A1, k, c1, A2, k, c2, q, hk, hk, U1.out.more (by omega)⟩
      have e3 : (r == 3) = false := by simp [h3]
      by_cases h4 : r = 4
      · subst h4
        have q5 := V.out.bb.cell
        have f5 := V.out.bb.free
        go_wp2
        go_meet
        exact ⟨T2, none, 0, 0, none, 0, 0, false, by omega, by omega, V.out.clear.more (by omega)⟩
      have e4 : (r == 4) = false := by simp [h4]
      go_wp2
      go_meet
      exact ⟨T2, A1, n1, c1, A2, n1, c2, q, by omega, by omega, V.out.more (by omega)⟩
  case rest =>
      obtain ⟨T3, A1, n1, c1, A2, n2, c2, q, m1, m2, st⟩ := hcut
      have U1 := hide st
      clear st V
      have q0 := U1.out.b0.cell
      have f0 := U1.out.b0.free
      have q5 := U1.out.bb.cell
      go_wp2
      refine bodyPost_ret (v := .agg #[.slice A1 n1 c1, .slice A2 n2 c2, .bool q]) (by simp [results, Try.results80, go_sem, q0]) rfl ?_
      exact ⟨T3, A1, n1, c1, A2, n2, c2, q, rfl, m1, m2, (U1.out.df.more (by omega)).put3 U1.out.b0 (Nat.le_refl _) _ _ _, U1.out.s1, U1.out.s2⟩
end Go.Proofs.Ytofmfagdaiphaaa

/- Draws of lists of items: any items. -/
namespace Go.Proofs.Ytofmfagdaiphaaa
open Go.RowKit Go.Sort
set_option linter.unusedVariables false

theorem wtSS_le {p : Nat} {xs : List (List UInt8)} (h : pS p 64 xs) : kdSS.wt xs ≤ 1088 := by
  obtain ⟨_, h1, h2⟩ := h
  have h3 : ∀ ys : List (List UInt8), (∀ y ∈ ys, y.length ≤ 16) → wtL kdS ys ≤ 17 * ys.length := by
    intro ys
    induction ys with
    | nil => intro _; exact Nat.le_refl _
    | cons y t ih =>
      intro hy
      have h4 := ih (fun z hz => hy z (by simp [hz]))
      have h5 := hy y (by simp)
      show 1 + y.length + wtL kdS t ≤ 17 * (t.length + 1)
      omega
  have h6 := h3 xs h2
  show wtL kdS xs ≤ 1088
  omega
theorem pIt.wt {p : Nat} {x : ItD} (h : pIt p 64 x) : kdItem.wt x ≤ 1152 := by
  have h1 := wtSS_le h.1
  have h2 : kdL.wt x.2.1 = x.2.1.length := wtL_int _
  have h3 := h.2.1.2.1
  rw [kdItem.wt_eq]
  omega
theorem pIts.wt {p : Nat} {xs : List ItD} (hl : xs.length ≤ 64) (h : ∀ x ∈ xs, pIt p 64 x) : wtL kdItem xs ≤ 1048576 := by
  have h3 : ∀ ys : List ItD, (∀ y ∈ ys, pIt p 64 y) → wtL kdItem ys ≤ 1153 * ys.length := by
    intro ys
    induction ys with
    | nil => intro _; exact Nat.le_refl _
    | cons y t ih =>
      intro hy
      have h4 := ih (fun z hz => hy z (by simp [hz]))
      have h5 := (hy y (by simp)).wt
      show 1 + kdItem.wt y + wtL kdItem t ≤ 1153 * (t.length + 1)
      omega
  have := h3 xs h
  omega
section
variable {w0 w : World} {g M : Nat} {T : Typ} {A1 A2 A : Option Addr} {n1 c1 n2 c2 n c p : Nat} {q : Bool}
theorem it3 (h1 : ST T [.str] 9 A1 n1 c1) (h2 : ST T [.int] 3 A2 n2 c2) (p1 : p ≤ n1) (p2 : p ≤ n2) : E1 T (ksIt p) [.slice A1 n1 c1, .slice A2 n2 c2, .bool q] :=
  E1.cons (k := vS p) ⟨_, _, _, rfl, h1, p1⟩ (E1.cons (k := vI p) ⟨_, _, _, rfl, h2, p2⟩ (E1.one (k := .bool) ⟨q, rfl⟩))
theorem src3At {w : World} {H : Nat} (hH : w.heap.size = H) (a b c : Value) (t : TypeId) : ∀ j v, [a, b, c][j]? = some v → (w.alloc (.cells #[a, b, c] t)).cell? ⟨H, 0 + j, none⟩ = some v := by
  subst hH
  intro j v h
  match j, h with
  | 0, h => simp at h; subst h; simp [World.cell?_alloc_at]
  | 1, h => simp at h; subst h; simp [World.cell?_alloc_at]
  | 2, h => simp at h; subst h; simp [World.cell?_alloc_at]
  | j + 3, h => simp at h
/-- An item read. -/
theorem DS.item (h : DS w0 g 64 M T w) (h1 : ST T [.str] 9 A1 n1 c1) (h2 : ST T [.int] 3 A2 n2 c2) (q : Bool) : ∃ x, kdItem.rd w w.heap.size [.slice A1 n1 c1, .slice A2 n2 c2, .bool q] x ∧ pIt 0 64 x :=
  exp_item 0 64 _ _ _ _ h.ts (it3 h1 h2 (Nat.zero_le _) (Nat.zero_le _))
theorem DS.items (h : DS w0 g 64 M T w) (hs : ST T (ksIt p) 50 A n c) : ∃ xs, LR kdItem w w.heap.size A c xs ∧ xs.length = n ∧ (∀ x ∈ xs, pIt p 64 x) ∧ wtL kdItem xs ≤ 1048576 := by
  obtain ⟨xs, h1, h2, h3⟩ := LR.of_ST rfl (exp_item p 64) h.ts hs
  exact ⟨xs, h1, h2, h3, pIts.wt (by have := (h.ts.len hs).1; omega) h3⟩
theorem cu.itGoodT (h : DS w0 g 64 M T w) (h1 : ST T [.str] 9 A1 n1 c1) (h2 : ST T [.int] 3 A2 n2 c2) (q : Bool) :
    Calls Try.prog 81 #[.agg #[.slice A1 n1 c1, .slice A2 n2 c2, .bool q]] w fun e w' => ∃ B, e = .returned (.bool B) ∧ Ext w w' := by
  obtain ⟨x, hx, hp⟩ := h.item h1 h2 q
  refine (s.itGood_any w _ x hx (by have := hp.wt; omega)).mono ?_
  rintro e w' ⟨rfl, hk⟩
  exact ⟨_, rfl, hk⟩
end
theorem LitI {w0 w : World} {g M : Nat} {T : Typ} (h : DS w0 g 64 M T w) (zs : List Int) (hn : zs.length ≤ 64) :
    ∃ T', DS w0 g 64 M T' (w.alloc (.cells (zs.map (Value.int .i64)).toArray 3)) ∧ Stp g T w T' (w.alloc (.cells (zs.map (Value.int .i64)).toArray 3)) ∧ ST T' [.int] 3 (some ⟨w.heap.size, 0, none⟩) zs.length zs.length := by
  refine h.lit _ zs.length 3 [.int] hn (by omega) (by simp) (fun i hi j k hk => ?_)
  obtain rfl : j = 0 := by have := (List.getElem?_eq_some_iff.1 hk).1; simp at this; omega
  simp at hk
  subst hk
  exact ⟨.int .i64 zs[i], by simp [hi], ⟨_, rfl⟩⟩

set_option maxRecDepth 100000 in
set_option maxHeartbeats 4000000 in
theorem cu.anyItems_m (w0 w : World) (g M : Nat) (T : Typ) (h : DS w0 g 64 M T w) (hM : M ≤ 4611686018400000000) :
    Calls Try.prog 52 #[.pointer (some ⟨g, 0, none⟩)] w fun e w' => ∃ (T' : Typ) (A : Option Addr) (n c : Nat), e = .returned (.slice A n c) ∧ n ≤ 15 ∧ DF w0 w g 64 (M + 1000) T T' w' ∧ ST T' (ksIt 0) 50 A n c := by
  have hg := h.cg
  have D0 := hide (DF.start h)
  clear h
  go_enter Try.func52, Try.ntmps52
  go_wp2_with fail
  refine (cu.pick_m w g M 7 D0.out.ds.cu (by omega) (by unfold InR; omega)).mono ?_
  rintro e w1 ⟨r, rfl, r0, r1, -, c1, k1⟩
  have D1 := hide (D0.out.curs k1 c1)
  have r2 := r1 (by omega)
  clear c1 k1 r1 D0
  go_wp2
  go_loopw [3, 4] (fun s3 s4 wr => ∃ (k : Int) (j : Nat) (T' : Typ) (A : Option Addr) (n c : Nat), s4 = .int .i64 k ∧ s3 = .slice A n c ∧ 0 ≤ k ∧ k + j ≤ 6 ∧ n ≤ j ∧ DF w0 w g 64 (M + 2 + 110 * j) T T' wr ∧ ST T' (ksIt 0) 50 A n c) (fun s3 s4 _ => (intOf s4).toNat)
  case atStart => exact ⟨r, 0, T, none, 0, 0, by go_num, rfl, r0, by omega, by omega, D1.out, ST.none_⟩
  case round =>
    clear D1 r0 r2
    obtain ⟨k, j, T1, A, n, c, rfl, rfl, hk0, hk1, hn, df, st⟩ := hrel
    have D := hide df
    have L := hide st
    clear df st
    by_cases hlt : 0 < k
    · go_wp2_with fail
      refine (cu.anyItem_m w0 wr g _ T1 D.out.ds (by omega)).mono ?_
      rintro e w2 ⟨T2, A1, n1, c1, A2, n2, c2, q, rfl, m1, m2, f2, t1, t2⟩
      have D2 := hide (D.out.call f2)
      have L2 := hide (L.out.mono f2.sp.le)
      have T1h := hide t1
      have T2h := hide t2
      obtain ⟨b, hb⟩ : ∃ b, Hid (w2.heap.size = b) := ⟨_, rfl⟩
      have D3 := hide (D2.out.ext (Ext.alloc w2 (.cells #[.slice A1 n1 c1, .slice A2 n2 c2, .bool q] 50)))
      have B3 := hide (Bx.newAt D2.out.ds hb.out #[.slice A1 n1 c1, .slice A2 n2 c2, .bool q] 50)
      clear f2 t1 t2 D L D2
      go_upto_region 6 with fail
      rw [hb.out]
      generalize w2.alloc (.cells #[.slice A1 n1 c1, .slice A2 n2 c2, .bool q] 50) = w3 at *
      clear hb
      go_cut [20] (fun s20 wx => ∃ B, s20 = .bool B ∧ DF w0 w g 64 (M + 2 + 110 * j + 102) T T2 wx ∧ Bx g T2 wx b #[.slice A1 n1 c1, .slice A2 n2 c2, .bool q] 50)
      case first =>
        have q5 := B3.out.cell
        have f5 := B3.out.free
        go_wp2_with fail
        refine (cu.itGoodT D3.out.ds T1h.out T2h.out q).mono ?_
        rintro e w4 ⟨B, rfl, x4⟩
        have D4 := hide (D3.out.ext x4)
        have B4 := hide (B3.out.ext x4)
        clear x4 D3 B3 q5 f5
        cases B
        · go_wp2_with fail
          refine (cu.one_m w4 g _ 4 D4.out.ds.cu (by omega) (by unfold InR; omega)).mono ?_
          rintro e w5 ⟨r, rfl, c5, k5⟩
          go_wp2
          go_meet
          exact ⟨r, rfl, (D4.out.curs k5 c5).more (by omega), B4.out.curs k5⟩
        · go_wp2
          go_meet
          exact ⟨true, rfl, D4.out.more (by omega), B4.out⟩
      case rest =>
        obtain ⟨B, rfl, df, bx⟩ := hcut
        have D4 := hide df
        have B4 := hide bx
        clear df bx D3 B3
        cases B
        · go_wp2
          go_roundw
          case rel => exact ⟨k - 1, j + 1, T2, A, n, c, by go_num, rfl, by omega, by omega, by omega, D4.out.more (by omega), L2.out⟩
          case measure => simp [intOf]; omega
        · have q5 := B4.out.cell
          have f5 := B4.out.free
          have D5 := hide (D4.out.ext (Ext.alloc wc (.cells #[.slice A1 n1 c1, .slice A2 n2 c2, .bool q] 50)))
          go_wp2_with (at_builtin; refine wpList_append_T (ks := ksIt 0) (by rfl) (.tmp 21) (.tmp 23) (by rfl) elemN_item (by rfl) (by rfl) D5.out.ds.ts D5.out.ds.size L2.out (by decide) (by rfl) (src3At rfl _ _ _ _) (it3 T1h.out T2h.out (Nat.zero_le _) (Nat.zero_le _)).el (by decide) (by omega) (by decide) (by omega) ?_; intro A5 c5 w8 T5 ap; have S7 := hide (D5.out.ds.app ap); have D8 := hide (D5.out.stp S7.out.2.1 S7.out.1); clear ap)
          go_roundw
          case rel => exact ⟨k - 1, j + 1, T5, A5, n + 1, c5, by go_num, rfl, by omega, by omega, by omega, D8.out.more (by omega), S7.out.2.2⟩
          case measure => simp [intOf]; omega
    · obtain rfl : k = 0 := by omega
      go_wp2_with fail
      refine (cu.one_m wr g _ 24 D.out.ds.cu (by omega) (by unfold InR; omega)).mono ?_
      rintro e w5 ⟨r, rfl, c5, k5⟩
      have D1 := hide (D.out.curs k5 c5)
      clear c5 k5 D
      cases r
      · go_wp2
        go_ret
        exact ⟨T1, A, n, c, rfl, by omega, D1.out.more (by omega), L.out⟩
      · go_wp2_with fail
        refine (cu.pick_m w5 g _ 2 D1.out.ds.cu (by omega) (by unfold InR; omega)).mono ?_
        rintro e w6 ⟨z, rfl, z0, z1, -, c6, k6⟩
        have D2 := hide (D1.out.curs k6 c6)
        have z2 := z1 (by omega)
        clear c6 k6 z1 D1
        go_wp2
        go_loopw [3] (fun s3 wr => ∃ (T' : Typ) (A : Option Addr) (n c : Nat), s3 = .slice A n c ∧ n ≤ 15 ∧ DF w0 w g 64 (M + 800) T T' wr ∧ ST T' (ksIt 0) 50 A n c) (fun s3 _ => 15 - lenV s3)
        case atStart => exact ⟨T1, A, n, c, rfl, by omega, D2.out.more (by omega), L.out⟩
        case round =>
          clear D2 L
          obtain ⟨T3, A, n, c, rfl, hn, df, st⟩ := hrel
          have D := hide df
          have L := hide st
          clear df st
          by_cases hlt : (n : Int) < 14 + z
          · obtain ⟨T4, d4, s4, t4⟩ := D.out.ds.litS #[.string { data := #[49, 84] }] (n := 1) rfl (by omega) (by intro v hv; simp at hv; subst hv; exact ⟨_, rfl, by decide⟩)
            have D4 := hide (D.out.stp s4 d4)
            have L4 := hide (L.out.mono s4.le)
            have S4 := hide t4
            clear d4 s4 t4
            obtain ⟨T5, d5, s5, t5⟩ := LitI D4.out.ds [0] (by decide)
            have D5 := hide (D4.out.stp s5 d5)
            have L5 := hide (L4.out.mono s5.le)
            have S5 := hide (S4.out.mono s5.le)
            have Z5 := hide t5
            clear d5 s5 t5 D4 L4 S4
            have e1 : (wr.alloc (.cells #[.string { data := #[49, 84] }] 9)).heap.size = wr.heap.size + 1 := by simp
            rw [e1] at Z5
            clear e1
            have D6 := hide (D5.out.ext (Ext.alloc ((wr.alloc (.cells #[.string { data := #[49, 84] }] 9)).alloc (.cells #[.int .i64 0] 3)) (.cells #[.slice (some ⟨wr.heap.size, 0, none⟩) 1 1, .slice (some ⟨wr.heap.size + 1, 0, none⟩) 1 1, .bool false] 50)))
            go_wp2_with (at_builtin; refine wpList_append_T (ks := ksIt 0) (by rfl) (.tmp 34) (.tmp 38) (by rfl) elemN_item (by rfl) (by rfl) D6.out.ds.ts D6.out.ds.size L5.out (by decide) (by rfl) (src3At (by simp) _ _ _ _) (it3 S5.out Z5.out (Nat.zero_le _) (Nat.zero_le _)).el (by decide) (by omega) (by decide) (by omega) ?_; intro A5 c5 w8 T7 ap; have S7 := hide (D6.out.ds.app ap); have D8 := hide (D6.out.stp S7.out.2.1 S7.out.1); clear ap)
            go_roundw
            case rel => exact ⟨T7, A5, n + 1, c5, rfl, by omega, D8.out.more (by omega), S7.out.2.2⟩
            case measure => simp [lenV]; omega
          · have hc := (D.out.ds.ts.len L.out)
            have h1 := hc.2.1
            have h2 := hc.2.2
            unfold maxLen at h2
            go_wp2
            go_ret
            exact ⟨T3, A, n, c, rfl, hn, D.out.more (by omega), L.out⟩
end Go.Proofs.Ytofmfagdaiphaaa

/- Draws of items of a code's elements, and lists of them. -/
namespace Go.Proofs.Ytofmfagdaiphaaa
open Go.RowKit Go.Sort
set_option linter.unusedVariables false

end Go.Proofs.Ytofmfagdaiphaaa

/- Draws of lists of items of a code's elements. -/
namespace Go.Proofs.Ytofmfagdaiphaaa
open Go.RowKit Go.Sort
set_option linter.unusedVariables false

theorem DF.putS {w0 ws w : World} {g M x m c : Nat} {Ts T : Typ} {e : TypeId} (h : DF w0 ws g 64 M Ts T w) (hT : T x = some ([.str], e, m, c)) (i : Nat) {y : List UInt8} (hy : y.length ≤ 16) : DF w0 ws g 64 M Ts T (w.setCell ⟨x, i, none⟩ (.string (bs y))) := by
  have d := h.store hT (i := i) (j := 0) (k := .str) rfl (isStr_of hy)
  have e2 : i * ([VK.str] : List VK).length + 0 = i := by simp
  rw [e2] at d
  exact d
theorem DF.putI {w0 ws w : World} {g M x m c : Nat} {Ts T : Typ} {e : TypeId} (h : DF w0 ws g 64 M Ts T w) (hT : T x = some ([.int], e, m, c)) (i : Nat) (z : Int) : DF w0 ws g 64 M Ts T (w.setCell ⟨x, i, none⟩ (.int .i64 z)) := by
  have d := h.store hT (i := i) (j := 0) (k := .int) rfl ⟨z, rfl⟩
  have e2 : i * ([VK.int] : List VK).length + 0 = i := by simp
  rw [e2] at d
  exact d
/-- The three cells of an item of a typed row. -/
theorem DS.it3 {w0 w : World} {g L M n c i p : Nat} {T : Typ} {A : Option Addr} (h : DS w0 g L M T w) (s : ST T (ksIt p) 50 A n c) (hi : i < n) :
    ∃ x A1 n1 c1 A2 n2 c2 q, A = some ⟨x, 0, none⟩ ∧ p ≤ n1 ∧ p ≤ n2 ∧ ST T [.str] 9 A1 n1 c1 ∧ ST T [.int] 3 A2 n2 c2 ∧ T x ≠ none ∧ x < w.heap.size ∧ w.cell? ⟨x, i * 3, none⟩ = some (.slice A1 n1 c1) ∧ w.cell? ⟨x, i * 3 + 1, none⟩ = some (.slice A2 n2 c2) ∧ w.cell? ⟨x, i * 3 + 2, none⟩ = some (.bool q) := by
  obtain ⟨x, v, rfl, h1, h2, _, h3, h4⟩ := h.ts.load s hi (show (ksIt p)[0]? = some (vS p) from rfl)
  obtain ⟨x1, v1, e1, i1, j1, _⟩ := h.ts.load s hi (show (ksIt p)[1]? = some (vI p) from rfl)
  obtain ⟨x2, v2, e2, i2, j2, _⟩ := h.ts.load s hi (show (ksIt p)[2]? = some .bool from rfl)
  have f1 : x1 = x := (congrArg Addr.block (Option.some.inj e1)).symm
  have f2 : x2 = x := (congrArg Addr.block (Option.some.inj e2)).symm
  subst f1 f2
  obtain ⟨A1, n1, c1, rfl, s1, p1⟩ := h2
  obtain ⟨A2, n2, c2, rfl, s2, p2⟩ := j1
  obtain ⟨q, rfl⟩ := j2
  exact ⟨_, A1, n1, c1, A2, n2, c2, q, rfl, p1, p2, s1, s2, h4, h3, h1, i1, i2⟩

end Go.Proofs.Ytofmfagdaiphaaa
