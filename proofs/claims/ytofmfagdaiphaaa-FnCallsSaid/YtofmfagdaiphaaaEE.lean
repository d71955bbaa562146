/- Draws of items: a text among texts, an item of given names. -/
import Derived.Test.YtofmfagdaiphaaaED
namespace Go.Proofs.Ytofmfagdaiphaaa
open Go.RowKit Go.Sort
set_option linter.unusedVariables false

theorem ST.sl {lo L : Nat} {T : Typ} {w : World} {A : Option Addr} {n c : Nat} {e : TypeId} (h : TS lo L T w) (hs : ST T [.str] e A n c) : ∃ vs, Sl w w.heap.size A n vs ∧ ∀ v ∈ vs, IsStr v := by
  rcases hs with ⟨rfl, rfl, rfl⟩ | ⟨b, m, rfl, hb, hm⟩
  · exact ⟨[], Sl.nil, by simp⟩
  · obtain ⟨h1, h2, h3, cur, h4, h5, h6⟩ := h.row b _ e m c hb
    have h5' : cur.size = c := by simpa using h5
    refine ⟨cur.toList.take n, ⟨by simp; omega, fun _ => ⟨b, 0, rfl, (h.lt b _ hb).2, fun k u hu => ?_⟩⟩, fun v hv => ?_⟩
    · rw [Nat.zero_add, cell_of_row w b k cur e (0, 0) h4]
      rw [List.getElem?_take] at hu
      split at hu
      · simpa using hu
      · cases hu
    · obtain ⟨k, hk, rfl⟩ := List.getElem_of_mem hv
      simp at hk
      obtain ⟨v, h7, h8⟩ := h6 k (by omega) 0 .str rfl
      have e1 : (cur.toList.take n)[k]? = some v := by
        rw [List.getElem?_take, if_pos (by omega)]
        simpa using h7
      rw [List.getElem?_eq_getElem (by simp; omega)] at e1
      injection e1 with e1
      rw [e1]; exact h8
theorem cu.ofT {w0 w : World} {g M n c : Nat} {T : Typ} {A : Option Addr} (h : DS w0 g 64 M T w) (hM : M ≤ 4611686018427000000) (hs : ST T [.str] 9 A n c) (hn : 1 ≤ n) :
    Calls Try.prog 90 #[.pointer (some ⟨g, 0, none⟩), .slice A n c] w fun e w' => ∃ y, e = .returned (.string (bs y)) ∧ y.length ≤ 16 ∧ Cur w' g (M + 2) ∧ TchF [g] w w' := by
  obtain ⟨vs, h1, h2⟩ := ST.sl h.ts hs
  have hl := h.ts.len hs
  refine cu.of_m w g M A n c vs h.cu hM h1 h2 (fun p hp => ?_) hn (by omega)
  obtain ⟨b, m, e, hb, hm⟩ := hs.pos (by omega)
  rw [e] at hp
  injection hp with hp
  subst hp
  exact (h.lo (b := b) (by rw [hb]; simp)).2.2
/-- A literal list of numbers, of which one is drawn. -/
theorem cu.amongT {w0 w : World} {g M : Nat} {T : Typ} (h : DS w0 g 64 M T w) (hM : M ≤ 4611686018427000000) (zs : List Int) (hz : 1 ≤ zs.length) (hz2 : zs.length ≤ 1048576) {wx : World} {x : Nat} (hx : Ext w wx) (hb : Blk wx x (zs.map (Value.int .i64)).toArray 3) (hxg : x ≠ g) (c : Nat) :
    Calls Try.prog 74 #[.pointer (some ⟨g, 0, none⟩), .slice (some ⟨x, 0, none⟩) zs.length c] wx fun e w' => ∃ r, e = .returned (.int .i64 r) ∧ r ∈ zs ∧ Cur w' g (M + 2) ∧ TchF [g] wx w' :=
  cu.among_m wx g M x c zs (h.cu.ext hx) hM hb hxg hz hz2

/-- An item under way in box b; the result's box is the first new block. -/
structure ItU (w0 ws : World) (g M : Nat) (Ts T : Typ) (w : World) (b : Nat) (A1 : Option Addr) (n1 c1 : Nat) (A2 : Option Addr) (n2 c2 : Nat) (q : Bool) : Prop where
  df : DF w0 ws g 64 M Ts T w
  b0 : Bx g T w ws.heap.size #[.slice none 0 0, .slice none 0 0, .bool false] 50
  bb : Bx g T w b #[.slice A1 n1 c1, .slice A2 n2 c2, .bool q] 50
  s1 : ST T [.str] 9 A1 n1 c1
  s2 : ST T [.int] 3 A2 n2 c2
  hb : ws.heap.size < b
section
variable {w0 ws w w' : World} {g M M' b : Nat} {Ts T T' : Typ} {A1 : Option Addr} {n1 c1 : Nat} {A2 : Option Addr} {n2 c2 : Nat} {q : Bool}
theorem ItU.stp (h : ItU w0 ws g M Ts T w b A1 n1 c1 A2 n2 c2 q) (k : Stp g T w T' w') (d : DS w0 g 64 M' T' w') : ItU w0 ws g M' Ts T' w' b A1 n1 c1 A2 n2 c2 q :=
  ⟨h.df.stp k d, h.b0.stp k, h.bb.stp k, h.s1.mono k.le, h.s2.mono k.le, h.hb⟩
theorem ItU.ext (h : ItU w0 ws g M Ts T w b A1 n1 c1 A2 n2 c2 q) (k : Ext w w') : ItU w0 ws g M Ts T w' b A1 n1 c1 A2 n2 c2 q := h.stp (Stp.of_ext k) (h.df.ds.ext k)
theorem ItU.curs (h : ItU w0 ws g M Ts T w b A1 n1 c1 A2 n2 c2 q) (k : TchF [g] w w') (c : Cur w' g M') : ItU w0 ws g M' Ts T w' b A1 n1 c1 A2 n2 c2 q := h.stp (Stp.of_cur k) (h.df.ds.curs k c)
theorem ItU.step {wx : World} (h : ItU w0 ws g M Ts T w b A1 n1 c1 A2 n2 c2 q) (x : Ext w wx) (k : TchF [g] wx w') (c : Cur w' g M') : ItU w0 ws g M' Ts T w' b A1 n1 c1 A2 n2 c2 q := (h.ext x).curs k c
theorem ItU.more (h : ItU w0 ws g M Ts T w b A1 n1 c1 A2 n2 c2 q) (hm : M ≤ M') : ItU w0 ws g M' Ts T w b A1 n1 c1 A2 n2 c2 q := ⟨h.df.more hm, h.b0, h.bb, h.s1, h.s2, h.hb⟩
theorem ItU.cN (h : ItU w0 ws g M Ts T w b A1 n1 c1 A2 n2 c2 q) : w.cell? ⟨b, 0, none⟩ = some (.slice A1 n1 c1) := h.bb.cell 0
theorem ItU.cM (h : ItU w0 ws g M Ts T w b A1 n1 c1 A2 n2 c2 q) : w.cell? ⟨b, 1, none⟩ = some (.slice A2 n2 c2) := h.bb.cell 1
theorem ItU.free (h : ItU w0 ws g M Ts T w b A1 n1 c1 A2 n2 c2 q) (j : Nat) : w.frozen? ⟨b, j, none⟩ = false := h.bb.free j
/-- A name more. -/
theorem ItU.appN {A3 : Option Addr} {n3 c3 : Nat} (h : ItU w0 ws g M Ts T w b A1 n1 c1 A2 n2 c2 q) (a : ApT w0.heap.size 64 T [.str] 9 w n3 w' A3 c3 T') :
    ItU w0 ws g M Ts T' w' b A1 n1 c1 A2 n2 c2 q ∧ ItU w0 ws g M Ts T' (w'.setCell ⟨b, 0, none⟩ (.slice A3 n3 c3)) b A3 n3 c3 A2 n2 c2 q := by
  obtain ⟨d, k, s⟩ := h.df.ds.app a
  have h2 := h.stp k d
  have hb := h.hb
  exact ⟨h2, h2.df.bx h2.bb (by omega) _ _, h2.b0.far (by show ws.heap.size ≠ b; omega) _, h2.bb.set 0 _, s, h2.s2, hb⟩
theorem ItU.appM {A3 : Option Addr} {n3 c3 : Nat} (h : ItU w0 ws g M Ts T w b A1 n1 c1 A2 n2 c2 q) (a : ApT w0.heap.size 64 T [.int] 3 w n3 w' A3 c3 T') :
    ItU w0 ws g M Ts T' w' b A1 n1 c1 A2 n2 c2 q ∧ ItU w0 ws g M Ts T' (w'.setCell ⟨b, 1, none⟩ (.slice A3 n3 c3)) b A1 n1 c1 A3 n3 c3 q := by
  obtain ⟨d, k, s⟩ := h.df.ds.app a
  have h2 := h.stp k d
  have hb := h.hb
  exact ⟨h2, h2.df.bx h2.bb (by omega) _ _, h2.b0.far (by show ws.heap.size ≠ b; omega) _, h2.bb.set 1 _, h2.s1, s, hb⟩
/-- The result's box filled. -/
theorem DF.put3 {Ts T : Typ} {x : Nat} {cs : Array Value} {t : TypeId} (h : DF w0 ws g 64 M Ts T w) (hb : Bx g T w x cs t) (hx : ws.heap.size ≤ x) (u0 u1 u2 : Value) : DF w0 ws g 64 M Ts T (((w.setCell ⟨x, 0, none⟩ u0).setCell ⟨x, 1, none⟩ u1).setCell ⟨x, 2, none⟩ u2) :=
  (((h.box hx hb.hT 0 u0).box hx hb.hT 1 u1).box hx hb.hT 2 u2)
end
theorem src1 (w : World) (u : Value) (t : TypeId) : ∀ j v, [u][j]? = some v → (w.alloc (.cells #[u] t)).cell? ⟨w.heap.size, 0 + j, none⟩ = some v := by
  intro j v h
  match j, h with
  | 0, h => simp at h; subst h; simp [World.cell?_alloc_at]
  | j + 1, h => simp at h
theorem el1 {T : Typ} {k : VK} {u : Value} (h : VT T k u) : EL T [k] 1 (fun q => [u][q]?) := (E1.one h).el

set_option maxRecDepth 100000 in
set_option maxHeartbeats 4000000 in
theorem cu.called_m (w0 w : World) (g M n c : Nat) (T : Typ) (A : Option Addr) (h : DS w0 g 64 M T w) (hM : M ≤ 4611686018420000000) (hs : ST T [.str] 9 A n c) (hn : 1 ≤ n) :
    Calls Try.prog 73 #[.pointer (some ⟨g, 0, none⟩), .slice A n c] w fun e w' => ∃ (T' : Typ) (A1 : Option Addr) (n1 c1 : Nat) (A2 : Option Addr) (c2 : Nat) (q : Bool), e = .returned (.agg #[.slice A1 n1 c1, .slice A2 n1 c2, .bool q]) ∧ 1 ≤ n1 ∧ n1 ≤ 3 ∧ DF w0 w g 64 (M + 30) T T' w' ∧ ST T' [.str] 9 A1 n1 c1 ∧ ST T' [.int] 3 A2 n1 c2 := by
  have hg := h.cg
  have D0 := hide ((DF.start h).ext (Ext.alloc w (.cells #[.slice none 0 0, .slice none 0 0, .bool false] 50)))
  have B0 := hide (Bx.new h #[.slice none 0 0, .slice none 0 0, .bool false] 50)
  have HS := hide hs
  clear h hs
  go_enter Try.func73, Try.ntmps73
  go_wp2_with fail
  refine (cu.one_m _ g M 3 D0.out.ds.cu (by omega) (by unfold InR; omega)).mono ?_
  rintro e w1 ⟨q, rfl, c1, k1⟩
  have D1 := hide (D0.out.curs k1 c1)
  have B1 := hide (B0.out.curs k1)
  clear c1 k1 D0 B0
  obtain ⟨b, hb⟩ : ∃ b, Hid (w1.heap.size = b) := ⟨_, rfl⟩
  have U := hide (ItU.mk (D1.out.ext (Ext.alloc w1 (.cells #[.slice none 0 0, .slice none 0 0, .bool q] 50))) (B1.out.ext (Ext.alloc _ _)) (Bx.newAt D1.out.ds hb.out _ _) ST.none_ ST.none_ (by have := B1.out.lt; have := hb.out; omega))
  clear D1 B1
  go_wp2_with fail
  refine (cu.pick_m _ g _ 6 U.out.df.ds.cu (by omega) (by unfold InR; omega)).mono ?_
  rintro e w2 ⟨r, rfl, r0, r1, -, c2, k2⟩
  have V := hide (U.out.curs k2 c2)
  have r2 := r1 (by omega)
  obtain ⟨z, hz⟩ : ∃ z, wrap64 (1 + wrap64 (r.tdiv 3)) = z := ⟨_, rfl⟩
  have r3 := hide (show 1 ≤ z ∧ z ≤ 2 by
    have e1 : wrap64 (r / 3) = r / 3 := IntWalk.wrap64_in _ (by omega)
    rw [← hz, Int.tdiv_eq_ediv_of_nonneg r0, e1, IntWalk.wrap64_in _ (by omega)]; omega)
  clear c2 k2 U r1 r2 r0
  rw [hb.out]
  clear hb
  go_wp2
  rw [hz]
  clear hz
  go_loopw [6] (fun s6 wr => ∃ (k : Int) (n1 : Nat) (T' : Typ) (A1 : Option Addr) (c1 : Nat) (A2 : Option Addr) (c2 : Nat), s6 = .int .i64 k ∧ 0 ≤ k ∧ 1 ≤ k + n1 ∧ k + n1 ≤ 2 ∧ ItU w0 w g (M + 4 + 4 * n1) T T' wr b A1 n1 c1 A2 n1 c2 q) (fun s6 _ => (intOf s6).toNat)
  case atStart => exact ⟨z, 0, T, none, 0, none, 0, by go_num, by have := r3.out; omega, by have := r3.out; omega, by have := r3.out; omega, V.out⟩
  case round =>
    clear V r3
    obtain ⟨k, n1, T1, A1, c1, A2, c2, rfl, hk0, hk1, hk2, st⟩ := hrel
    have U := hide st
    clear st
    by_cases hlt : 0 < k
    · have cA := U.out.cN
      have bl := U.out.bb.lt
      have H1 := hide (HS.out.mono U.out.df.sp.le)
      go_wp2_with fail
      go_region_law (first
        | (refine step_append_T (ks := [.str]) (by rfl) (.tmp 19) (.tmp 23) (by rfl) elemN_str (by rfl) (by rfl) U2.out.df.ds.ts U2.out.df.ds.size U2.out.s1 (by decide) (by rfl) (src1 w5 _ _) (el1 (k := .str) (isStr_of HY.out)) (by decide) (by omega) (by decide) (by omega) ?_; intro A3 c3 w3 T3 ap; have S3 := hide (U2.out.appN ap); have cD := S3.out.1.cN; have fD := S3.out.1.free 0; clear ap)
        | (go_simp; go_at_call 90; refine (cu.ofT (U.out.df.ds.ext (Ext.drew _)) (by omega) H1.out hn).mono ?_; rintro e w5 ⟨y, rfl, hy, c5, k5⟩; have U1 := hide ((U.out.ext (Ext.drew _)).curs k5 c5); have HY := hide hy; have cB := U1.out.cN; have U2 := hide (U1.out.ext (Ext.alloc w5 (.cells #[.string (bs y)] 9))); have cC := U2.out.cN; clear c5 k5 hy))
      all_goals
        have U4 := hide S3.out.2
        have cA := U4.out.cM
        have bl := U4.out.bb.lt
        clear S3 U1 U2 cB cC cD fD
        generalize w3.setCell ⟨b, 0, none⟩ (.slice A3 (n1 + 1) c3) = w6 at *
        go_wp2_with fail
        go_region_law (first
          | (refine step_append_T (ks := [.int]) (by rfl) (.tmp 27) (.tmp 31) (by rfl) elemN_ints (by rfl) (by rfl) U6.out.df.ds.ts U6.out.df.ds.size U6.out.s2 (by decide) (by rfl) (src1 w7 _ _) (el1 (k := .int) ⟨z, rfl⟩) (by decide) (by omega) (by decide) (by omega) ?_; intro A5 c5 w8 T5 ap; have S7 := hide (U6.out.appM ap); have cD := S7.out.1.cM; have fD := S7.out.1.free 1; clear ap)
          | (go_simp; go_at_call 74; refine (cu.amongT U4.out.df.ds (by omega) [0, 0, 0, 1, 2, 3] (by decide) (by decide) ((Ext.alloc w6 (.cells #[.int .i64 0, .int .i64 0, .int .i64 0, .int .i64 1, .int .i64 2, .int .i64 3] 3)).trans (Ext.drew _)) (Blk.new rfl _ _) (by have := U4.out.df.ds.cg; omega) _).mono ?_; rintro e w7 ⟨z, rfl, hz, c7, k7⟩; have U5 := hide (U4.out.step ((Ext.alloc w6 (.cells #[.int .i64 0, .int .i64 0, .int .i64 0, .int .i64 1, .int .i64 2, .int .i64 3] 3)).trans (Ext.drew _)) k7 c7); have cB := U5.out.cM; have U6 := hide (U5.out.ext (Ext.alloc w7 (.cells #[.int .i64 z] 3))); have cC := U6.out.cM; clear c7 k7 hz))
        all_goals
          have U8 := hide S7.out.2
          clear S7 U4 U5 U6
          go_wp2
          go_roundw
          case rel => exact ⟨k - 1, n1 + 1, T5, A3, c3, A5, c5, by go_num, by omega, by omega, by omega, U8.out.more (by omega)⟩
          case measure => simp [intOf]; omega
    · obtain rfl : k = 0 := by omega
      go_wp2_with fail
      refine (cu.one_m wr g _ 12 U.out.df.ds.cu (by omega) (by unfold InR; omega)).mono ?_
      rintro e w5 ⟨r, rfl, c5, k5⟩
      have U1 := hide (U.out.curs k5 c5)
      clear c5 k5 U
      cases r
      · have q0 := U1.out.b0.cell
        have f0 := U1.out.b0.free
        have q5 := U1.out.bb.cell
        go_wp2
        refine bodyPost_ret (v := .agg #[.slice A1 n1 c1, .slice A2 n1 c2, .bool q]) (by simp [results, Try.results73, go_sem, q0]) rfl ?_
        exact ⟨T1, A1, n1, c1, A2, c2, q, rfl, by omega, by omega, (U1.out.df.more (by omega)).put3 U1.out.b0 (Nat.le_refl _) _ _ _, U1.out.s1, U1.out.s2⟩
      · have cA := U1.out.cN
        have bl := U1.out.bb.lt
        have H1 := hide (HS.out.mono U1.out.df.sp.le)
        clear HS
        go_wp2_with fail
        go_region_law (first
          | (refine step_append_T (ks := [.str]) (by rfl) (.tmp 37) (.tmp 41) (by rfl) elemN_str (by rfl) (by rfl) U3.out.df.ds.ts U3.out.df.ds.size U3.out.s1 (by decide) (by rfl) (src1 w6 _ _) (el1 (k := .str) (isStr_of HY.out)) (by decide) (by omega) (by decide) (by omega) ?_; intro A3 c3 w3 T3 ap; have S3 := hide (U3.out.appN ap); have cD := S3.out.1.cN; have fD := S3.out.1.free 0; clear ap)
          | (go_simp; go_at_call 90; refine (cu.ofT (U1.out.df.ds.ext (Ext.drew _)) (by omega) H1.out hn).mono ?_; rintro e w6 ⟨y, rfl, hy, c5, k5⟩; have U2 := hide ((U1.out.ext (Ext.drew _)).curs k5 c5); have HY := hide hy; have cB := U2.out.cN; have U3 := hide (U2.out.ext (Ext.alloc w6 (.cells #[.string (bs y)] 9))); have cC := U3.out.cN; clear c5 k5 hy))
        all_goals
          have U4 := hide S3.out.2
          have cA := U4.out.cM
          have bl := U4.out.bb.lt
          clear S3 U1 U2 U3 cB cC cD fD H1
          generalize w3.setCell ⟨b, 0, none⟩ (.slice A3 (n1 + 1) c3) = w7 at *
          have U5 := hide (U4.out.ext (Ext.alloc w7 (.cells #[.int .i64 0] 3)))
          have cB := U5.out.cM
          go_wp2_with (at_builtin; refine wpList_append_T (ks := [.int]) (by rfl) (.tmp 45) (.tmp 46) (by rfl) elemN_ints (by rfl) (by rfl) U5.out.df.ds.ts U5.out.df.ds.size U5.out.s2 (by decide) (by rfl) (src1 w7 _ _) (el1 (k := .int) ⟨0, rfl⟩) (by decide) (by omega) (by decide) (by omega) ?_; intro A5 c5 w8 T5 ap; have S7 := hide (U5.out.appM ap); have fD := S7.out.1.free 1; have U8 := hide S7.out.2; have q0 := S7.out.1.b0.cell; have f0 := S7.out.1.b0.free; have c50 := S7.out.1.bb.cell 0; have c51 := S7.out.1.bb.cell 1; have c52 := S7.out.1.bb.cell 2; have ne := S7.out.1.hb; clear ap S7 U4 U5)
          refine bodyPost_ret (v := .agg #[.slice A3 (n1 + 1) c3, .slice A5 (n1 + 1) c5, .bool q]) (by simp [results, Try.results73, go_sem, q0]) rfl ?_
          exact ⟨T5, A3, n1 + 1, c3, A5, c5, q, rfl, by omega, by omega, (U8.out.df.more (by omega)).put3 U8.out.b0 (Nat.le_refl _) _ _ _, U8.out.s1, U8.out.s2⟩
end Go.Proofs.Ytofmfagdaiphaaa
