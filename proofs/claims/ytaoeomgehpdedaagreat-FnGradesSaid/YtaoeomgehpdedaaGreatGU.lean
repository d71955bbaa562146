/- GU: EU, EV, EW, EX in one text. -/
import Derived.Test.YtaoeomgehpdedaaGreatGL
import Derived.Test.YtaoeomgehpdedaaGreatGZ
/- Draws of programmes. -/
namespace Go.Proofs.YtaoeomgehpdedaaGreat
open Go.RowKit Go.Sort
set_option linter.unusedVariables false

section
variable {w0 w : World} {g M : Nat} {T : Typ} {A : Option Addr} {n c p : Nat}
theorem lateL_mem {P : ItD → Prop} (hP : ∀ (x : ItD) (m i : Nat), P x → P (lateD m i x)) {xs : List ItD} (h : ∀ x ∈ xs, P x) : ∀ x ∈ lateL xs, P x := by
  intro x hx
  unfold lateL at hx
  obtain ⟨i, hi, rfl⟩ := List.mem_map.1 hx
  rw [List.mem_range] at hi
  refine hP _ _ _ ?_
  rw [List.getD_eq_getElem?_getD, List.getElem?_eq_getElem hi]
  exact h _ (List.getElem_mem _)
/-- A copy of a list. -/
theorem cu.itOwnT (h : DS w0 g 64 M T w) (st : ST T (ksIt p) 47 A n c) :
    Calls Tryz.prog 83 #[.slice A n c] w fun e w' => ∃ T' A' c', e = .returned (.slice A' n c') ∧ DS w0 g 64 M T' w' ∧ Stp g T w T' w' ∧ ST T' (ksIt p) 47 A' n c' := by
  obtain ⟨xs, h1, rfl, h3, h4⟩ := h.items st
  have hl := (h.ts.len st).1
  refine (s.itOwn_any w A c w.heap.size xs h1 (Nat.le_refl _) h4).mono ?_
  rintro e w' ⟨A', c', fp, rfl, ho, hf, hx⟩
  obtain ⟨T', d, k, t⟩ := DS.impL (imp_list 47 0 rfl (imp_item p 64)) h hx ho hl h3 hf
  exact ⟨T', A', c', rfl, d, k, t⟩
/-- A list with its later half late. -/
theorem cu.pgLateT (h : DS w0 g 64 M T w) (st : ST T (ksIt p) 47 A n c) :
    Calls Tryz.prog 109 #[.slice A n c] w fun e w' => ∃ T' A' c', e = .returned (.slice A' n c') ∧ DS w0 g 64 M T' w' ∧ Stp g T w T' w' ∧ ST T' (ksIt p) 47 A' n c' := by
  obtain ⟨xs, h1, rfl, h3, h4⟩ := h.items st
  have hl := (h.ts.len st).1
  refine (s.pgLate_m w A c w.heap.size xs h1 (Nat.le_refl _) h4).mono ?_
  rintro e w' ⟨A', c', fp, rfl, ho, hf, hx⟩
  obtain ⟨T', d, k, t⟩ := DS.impL (imp_list 47 0 rfl (imp_item p 64)) h hx ho (by rw [lateL_len]; exact hl) (lateL_mem (fun x m i hx => ⟨hx.1, hx.2.1, trivial⟩) h3) hf
  rw [lateL_len] at t
  exact ⟨T', A', c', rfl, d, k, t⟩
theorem cu.pgGoodT {A1 A2 : Option Addr} {n1 c1 n2 c2 : Nat} (h : DS w0 g 64 M T w) (s1 : ST T ksEl 84 A1 n1 c1) (s2 : ST T [.int] 3 A2 n2 c2) (st : ST T (ksIt p) 47 A n c) (r bo k f : Int) :
    Calls Tryz.prog 110 #[.agg #[.slice A1 n1 c1, .slice A2 n2 c2, .int .i64 r, .int .i64 bo, .int .i64 k, .int .i64 f], .slice A n c] w fun e w' => ∃ B, e = .returned (.bool B) ∧ Ext w w' := by
  obtain ⟨xs, h1, rfl, h3, h4⟩ := h.items st
  obtain ⟨d, hd, hr⟩ := h.ts.code s1 s2 r bo k f
  refine (s.pgGood_m w _ d A c w.heap.size xs (hr w (Since.refl _ _)) hd h1 (Nat.le_refl _) h4).mono ?_
  rintro e w' ⟨rfl, hx⟩
  exact ⟨_, rfl, hx⟩
end

theorem Blk.src {w : World} {x : Nat} {cs : Array Value} {t : TypeId} (h : Blk w x cs t) : ∀ j v, cs.toList[j]? = some v → w.cell? ⟨x, 0 + j, none⟩ = some v := fun j v hv => by
  rw [Nat.zero_add, h.cell j]
  simpa using hv
/-- A code and a list under way, and an item in box x. -/
structure PuU (w0 ws : World) (g M : Nat) (Ts T : Typ) (w : World) (b : Nat) (A1 : Option Addr) (n1 c1 : Nat) (A2 : Option Addr) (c2 : Nat) (r bo k f : Int) (A : Option Addr) (n c : Nat) (x : Nat) (B1 : Option Addr) (m1 d1 : Nat) (B2 : Option Addr) (m2 d2 : Nat) : Prop where
  cu : CoU w0 ws g M Ts T w b A1 n1 c1 A2 5 c2 r bo k f
  bi : Bx g T w x #[.slice B1 m1 d1, .slice B2 m2 d2, .bool false] 47
  t1 : ST T [.str] 9 B1 m1 d1
  t2 : ST T [.int] 3 B2 m2 d2
  l : ST T (ksIt 1) 47 A n c
  hx : b < x
section
variable {w0 ws w w' : World} {g M M' b n1 c1 c2 n c x m1 d1 m2 d2 : Nat} {Ts T T' : Typ} {A1 A2 A B1 B2 : Option Addr} {r bo k f : Int}
theorem PuU.stp (h : PuU w0 ws g M Ts T w b A1 n1 c1 A2 c2 r bo k f A n c x B1 m1 d1 B2 m2 d2) (s : Stp g T w T' w') (d : DS w0 g 64 M' T' w') : PuU w0 ws g M' Ts T' w' b A1 n1 c1 A2 c2 r bo k f A n c x B1 m1 d1 B2 m2 d2 :=
  ⟨h.cu.stp s d, h.bi.stp s, h.t1.mono s.le, h.t2.mono s.le, h.l.mono s.le, h.hx⟩
theorem PuU.ext (h : PuU w0 ws g M Ts T w b A1 n1 c1 A2 c2 r bo k f A n c x B1 m1 d1 B2 m2 d2) (s : Ext w w') : PuU w0 ws g M Ts T w' b A1 n1 c1 A2 c2 r bo k f A n c x B1 m1 d1 B2 m2 d2 := h.stp (Stp.of_ext s) (h.cu.df.ds.ext s)
theorem PuU.step {wx : World} (h : PuU w0 ws g M Ts T w b A1 n1 c1 A2 c2 r bo k f A n c x B1 m1 d1 B2 m2 d2) (y : Ext w wx) (z : TchF [g] wx w') (cc : Cur w' g M') : PuU w0 ws g M' Ts T w' b A1 n1 c1 A2 c2 r bo k f A n c x B1 m1 d1 B2 m2 d2 := (h.ext y).stp (Stp.of_cur z) ((h.ext y).cu.df.ds.curs z cc)
theorem PuU.more (h : PuU w0 ws g M Ts T w b A1 n1 c1 A2 c2 r bo k f A n c x B1 m1 d1 B2 m2 d2) (hm : M ≤ M') : PuU w0 ws g M' Ts T w b A1 n1 c1 A2 c2 r bo k f A n c x B1 m1 d1 B2 m2 d2 := ⟨h.cu.more hm, h.bi, h.t1, h.t2, h.l, h.hx⟩
theorem PuU.cN (h : PuU w0 ws g M Ts T w b A1 n1 c1 A2 c2 r bo k f A n c x B1 m1 d1 B2 m2 d2) : w.cell? ⟨x, 0, none⟩ = some (.slice B1 m1 d1) := h.bi.cell 0
theorem PuU.cM (h : PuU w0 ws g M Ts T w b A1 n1 c1 A2 c2 r bo k f A n c x B1 m1 d1 B2 m2 d2) : w.cell? ⟨x, 1, none⟩ = some (.slice B2 m2 d2) := h.bi.cell 1
theorem PuU.free (h : PuU w0 ws g M Ts T w b A1 n1 c1 A2 c2 r bo k f A n c x B1 m1 d1 B2 m2 d2) (j : Nat) : w.frozen? ⟨x, j, none⟩ = false := h.bi.free j
theorem PuU.lt (h : PuU w0 ws g M Ts T w b A1 n1 c1 A2 c2 r bo k f A n c x B1 m1 d1 B2 m2 d2) : x < w.heap.size := h.bi.lt
theorem PuU.put (h : PuU w0 ws g M Ts T w b A1 n1 c1 A2 c2 r bo k f A n c x B1 m1 d1 B2 m2 d2) (j : Nat) (u : Value) : CoU w0 ws g M Ts T (w.setCell ⟨x, j, none⟩ u) b A1 n1 c1 A2 5 c2 r bo k f := by
  have hb := h.cu.hb
  have hx := h.hx
  exact ⟨h.cu.df.bx h.bi (by omega) _ _, h.cu.b0.far (by show ws.heap.size ≠ x; omega) _, h.cu.bb.far (by show b ≠ x; omega) _, h.cu.s1, h.cu.s2, hb⟩
/-- A name (a mark) more. -/
theorem PuU.appN {A3 : Option Addr} {n3 c3 : Nat} (h : PuU w0 ws g M Ts T w b A1 n1 c1 A2 c2 r bo k f A n c x B1 m1 d1 B2 m2 d2) (a : ApT w0.heap.size 64 T [.str] 9 w n3 w' A3 c3 T') :
    PuU w0 ws g M Ts T' w' b A1 n1 c1 A2 c2 r bo k f A n c x B1 m1 d1 B2 m2 d2 ∧ PuU w0 ws g M Ts T' (w'.setCell ⟨x, 0, none⟩ (.slice A3 n3 c3)) b A1 n1 c1 A2 c2 r bo k f A n c x A3 n3 c3 B2 m2 d2 := by
  obtain ⟨d, s, t⟩ := h.cu.df.ds.app a
  have h2 := h.stp s d
  exact ⟨h2, h2.put 0 _, h2.bi.set 0 _, t, h2.t2, h2.l, h.hx⟩
theorem PuU.appM {A3 : Option Addr} {n3 c3 : Nat} (h : PuU w0 ws g M Ts T w b A1 n1 c1 A2 c2 r bo k f A n c x B1 m1 d1 B2 m2 d2) (a : ApT w0.heap.size 64 T [.int] 3 w n3 w' A3 c3 T') :
    PuU w0 ws g M Ts T' w' b A1 n1 c1 A2 c2 r bo k f A n c x B1 m1 d1 B2 m2 d2 ∧ PuU w0 ws g M Ts T' (w'.setCell ⟨x, 1, none⟩ (.slice A3 n3 c3)) b A1 n1 c1 A2 c2 r bo k f A n c x B1 m1 d1 A3 n3 c3 := by
  obtain ⟨d, s, t⟩ := h.cu.df.ds.app a
  have h2 := h.stp s d
  exact ⟨h2, h2.put 1 _, h2.bi.set 1 _, h2.t1, t, h2.l, h.hx⟩
end

set_option maxRecDepth 100000 in
set_option maxHeartbeats 20000000 in
theorem cu.programme_m (w0 w : World) (g M : Nat) (T : Typ) (h : DS w0 g 64 M T w) (hM : M ≤ 4611686018380000000) :
    Calls Tryz.prog 81 #[.pointer (some ⟨g, 0, none⟩)] w fun e w' => ∃ (T' : Typ) (A1 : Option Addr) (n1 c1 : Nat) (A2 : Option Addr) (c2 : Nat) (r bo k f : Int) (A : Option Addr) (n c : Nat), e = .returned (.tuple #[.agg #[.slice A1 n1 c1, .slice A2 5 c2, .int .i64 r, .int .i64 bo, .int .i64 k, .int .i64 f], .slice A n c]) ∧ 1 ≤ n1 ∧ n1 ≤ 24 ∧ n ≤ 9 ∧ DF w0 w g 64 (M + 1200) T T' w' ∧ ST T' ksEl 84 A1 n1 c1 ∧ ST T' [.int] 3 A2 5 c2 ∧ ST T' (ksIt 1) 47 A n c := by
  have hg := h.cg
  have D0 := hide ((DF.start h).ext (Ext.alloc w (.cells zC 26)))
  have B0 := hide (Bx.new h zC 26)
  clear h
  go_enter Tryz.func81, Tryz.ntmps81
  go_wp2_with fail
  refine (cu.pointsT w0 _ g M T D0.out.ds (by omega)).mono ?_
  rintro e w1 ⟨T1, A1, n1, c1, A2, c2, rp, q2, q3, q4, rfl, m1, m2, f1, t1, t2⟩
  have D1 := hide (D0.out.call f1)
  have B1 := hide (B0.out.stp f1.sp)
  obtain ⟨b, hb⟩ : ∃ b, Hid (w1.heap.size = b) := ⟨_, rfl⟩
  have U := hide (CoU.mk (D1.out.ext (Ext.alloc w1 (.cells #[.slice A1 n1 c1, .slice A2 5 c2, .int .i64 rp, .int .i64 q2, .int .i64 q3, .int .i64 q4] 26))) (B1.out.ext (Ext.alloc _ _)) (Bx.newAt D1.out.ds hb.out _ _) t1 t2 (by have := B1.out.lt; have := hb.out; omega))
  clear f1 t1 t2 D1 B1 D0 B0
  go_upto_region 2 with fail
  rw [hb.out]
  clear hb
  generalize w1.alloc (.cells #[.slice A1 n1 c1, .slice A2 5 c2, .int .i64 rp, .int .i64 q2, .int .i64 q3, .int .i64 q4] 26) = w2 at *
  go_wp2_with fail
  refine (cu.one_m _ g _ 2 U.out.df.ds.cu (by omega) (by unfold InR; omega)).mono ?_
  rintro e w3 ⟨B, rfl, ca, ka⟩
  have V := hide (U.out.curs ka ca)
  clear ca ka U
  go_upto_if 14 with fail
  go_cut [] (fun wx => CoU w0 w g (M + 1002) T T1 wx b A1 n1 c1 A2 5 c2 rp q2 q3 q4)
  case first =>
    cases B
    · go_wp2
      go_meet
      exact V.out
    · skip
      have cA := V.out.cL
      go_wp2
      clear cA
      go_loopw [18] (fun s18 wr => ∃ k : Nat, s18 = .int .i64 k ∧ k ≤ 5 ∧ CoU w0 w g (M + 1002) T T1 wr b A1 n1 c1 A2 5 c2 rp q2 q3 q4) (fun s18 _ => 5 - (intOf s18).toNat)
      case atStart => exact ⟨0, by go_num, by omega, V.out⟩
      case round =>
        clear V
        obtain ⟨k, rfl, hk, st⟩ := hrel
        have V := hide st
        clear st
        by_cases hlt : k < 5
        · have hltz : (k : Int) < 5 := by omega
          obtain ⟨x, mx, hA, -⟩ := V.out.s2.pos (by omega)
          subst hA
          have cA := V.out.cL
          have bl := V.out.bb.lt
          obtain ⟨z, cz, fz, xl⟩ := V.out.lim rfl hlt
          go_wp2
          go_roundw
          case rel => exact ⟨k + 1, by go_num, by omega, V.out.putL rfl hlt 9⟩
          case measure => simp [intOf]; omega
        · obtain rfl : k = 5 := by omega
          go_wp2
          go_meet
          exact V.out
  case rest =>
    clear V
    have V := hide hcut
    clear hcut
    go_wp2_with fail
    refine (cu.pick_m _ g _ 9 V.out.df.ds.cu (by omega) (by unfold InR; omega)).mono ?_
    rintro e w4 ⟨z, rfl, z0, z1, -, ca, ka⟩
    have V1 := hide (V.out.curs ka ca)
    have z2 := z1 (by omega)
    clear ca ka z1 V
    go_wp2
    go_loopw [6, 7] (fun s6 s7 wr => ∃ (z : Int) (j : Nat) (T' : Typ) (A : Option Addr) (n c : Nat), s7 = .int .i64 z ∧ s6 = .slice A n c ∧ 0 ≤ z ∧ z + j ≤ 9 ∧ n ≤ j ∧ CoU w0 w g (M + 1004 + 12 * j) T T' wr b A1 n1 c1 A2 5 c2 rp q2 q3 q4 ∧ ST T' (ksIt 1) 47 A n c) (fun s6 s7 _ => (intOf s7).toNat)
    case atStart => exact ⟨1 + z, 0, T1, none, 0, 0, by go_num, rfl, by omega, by omega, by omega, V1.out, ST.none_⟩
    case round =>
      clear V1 z0 z2
      obtain ⟨z, j, T2, A, n, c, rfl, rfl, z0, z1, hn, st, sl⟩ := hrel
      have V := hide st
      have L := hide sl
      clear st sl
      by_cases hlt : 0 < z
      · skip
        obtain ⟨x, hx⟩ : ∃ x, Hid (wr.heap.size = x) := ⟨_, rfl⟩
        have bx : b < x := by have := V.out.bb.lt; have := hx.out; omega
        have P := hide (PuU.mk (V.out.ext (Ext.alloc wr (.cells #[.slice none 0 0, .slice none 0 0, .bool false] 47))) (Bx.newAt V.out.df.ds hx.out #[.slice none 0 0, .slice none 0 0, .bool false] 47) ST.none_ ST.none_ L.out bx)
        clear V L
        go_upto_region 13 with fail
        rw [hx.out]
        clear hx
        generalize wr.alloc (.cells #[.slice none 0 0, .slice none 0 0, .bool false] 47) = w4 at *
        go_wp2_with fail
        refine (cu.amongT P.out.cu.df.ds (by omega) [1, 1, 1, 1, 2, 2, 3] (by decide) (by decide) (Ext.alloc _ _) (Blk.new rfl _ _) (by have := P.out.cu.df.ds.cg; omega) _).mono ?_
        rintro e w5 ⟨nn, rfl, hnn, ca, ka⟩
        obtain ⟨nz, rfl, y1, y3⟩ : ∃ nz : Nat, nn = nz ∧ 1 ≤ nz ∧ nz ≤ 3 := by
          have : 1 ≤ nn ∧ nn ≤ 3 := by
            simp only [List.mem_cons, List.not_mem_nil, or_false] at hnn
            omega
          exact ⟨nn.toNat, by omega, by omega, by omega⟩
        have P1 := hide (P.out.step (Ext.alloc _ _) ka ca)
        clear ca ka hnn P
        go_wp2
        go_loopw [] (fun wr => ∃ (m : Nat) (T' : Typ) (B1 : Option Addr) (d1 : Nat) (B2 : Option Addr) (d2 : Nat), m ≤ nz ∧ PuU w0 w g (M + 1004 + 12 * j + 2 + 2 * m) T T' wr b A1 n1 c1 A2 c2 rp q2 q3 q4 A n c x B1 m d1 B2 m d2) (fun wr => 4 - lenAt wr x 0)
        case atStart => exact ⟨0, T2, none, 0, none, 0, by omega, P1.out⟩
        case round =>
          clear P1
          obtain ⟨m, T3, B1, d1, B2, d2, hm, st⟩ := hrel
          have P := hide st
          clear st
          by_cases hlm : m < nz
          · have hlmz : (m : Int) < (nz : Int) := by omega
            skip
            obtain ⟨xe, me, hA, -⟩ := P.out.cu.s1.pos (by omega)
            subst hA
            have cN := P.out.cN
            have cE := P.out.cu.cE
            have bl := P.out.cu.bb.lt
            have xl := P.out.lt
            go_wp2_with fail
            go_region_law (first
              | (refine step_append_A (ks := [.str]) (by rfl) (.tmp 43) (.tmp 54) (by rfl) elemN_str (by rfl) (by rfl) rfl S1.out.cu.df.ds.ts S1.out.cu.df.ds.size S1.out.t1 (by decide) (E1.one (isStr_of HY.out)) (by omega) (by decide) (by omega) ?_; intro A5 c5 w8 T5 ap; have S7 := hide ((S1.out.ext (Ext.alloc _ _)).appN ap); have cD := S7.out.1.cN; have fD := S7.out.1.free 0; clear ap)
              | (go_simp; go_at_call 48; refine (cu.pick_m _ g _ n1 (P.out.cu.df.ds.cu.ext (by first | with_reducible exact Ext.refl _ | with_reducible exact Ext.drew _)) (by omega) (by unfold InR; omega)).mono ?_; rintro e w6 ⟨ri, rfl, ri0, ri1, -, ca, ka⟩; obtain ⟨i, rfl⟩ : ∃ i : Nat, ri = i := ⟨ri.toNat, by omega⟩; have hi : (i : Int) < n1 := ri1 (by omega); have S1 := hide (P.out.step (by first | with_reducible exact Ext.refl _ | with_reducible exact Ext.drew _) ka ca); obtain ⟨xx, y, a1, a2, a3, ex, hy, -, -, e0, -, -, -⟩ := S1.out.cu.df.ds.el4 S1.out.cu.s1 (show i < n1 by omega); obtain rfl : xx = xe := (congrArg Addr.block (Option.some.inj ex)).symm; have HY := hide hy; have cB := S1.out.cN; have cF := S1.out.cu.cE; have bl := S1.out.cu.bb.lt; have S2 := hide (S1.out.ext (Ext.alloc w6 (.cells #[.string (bs y)] 9))); have cC := S2.out.cN; clear ca ka hy ri1))
            all_goals
              have S8 := hide (S7.out.2.ext (Ext.alloc (w8.setCell ⟨x, 0, none⟩ (.slice A5 (m + 1) c5)) (.cells #[.int .i64 0] 3)))
              have cM := S7.out.2.cM
              have cP := S8.out.cM
              have xl8 := S7.out.2.lt
              go_wp2_with (at_builtin; refine wpList_append_T (ks := [.int]) (by rfl) (.tmp 58) (.tmp 59) (by rfl) elemN_ints (by rfl) (by rfl) S8.out.cu.df.ds.ts S8.out.cu.df.ds.size S8.out.t2 (by decide) (by rfl) (src1At (by simp [World.setCell]) _ _) (el1 (k := .int) ⟨0, rfl⟩) (by decide) (by omega) (by decide) (by omega) ?_; intro A6 c6 w9 T6 ap; have S9 := hide (S8.out.appM ap); have fE := S9.out.1.free 1; have cG := S9.out.1.cM; have xl9 := S9.out.1.lt; clear ap)
              go_roundw
              case rel => exact ⟨m + 1, T6, A5, c5, A6, c6, by omega, S9.out.2.more (by omega)⟩
              case measure =>
                rw [lenAt_of P.out.cN, lenAt_of S9.out.2.cN]
                omega
          · obtain rfl : m = nz := by omega
            skip
            have q5 := P.out.bi.cell
            have xl := P.out.lt
            have LT : Hid (E1 T3 (ksIt 1) [.slice B1 m d1, .slice B2 m d2, .bool false]) := it3 P.out.t1 P.out.t2 y1 y1
            have n64 : n + 1 ≤ 64 := by omega
            go_wp2_with fail
            go_region_law (first
              | (refine step_append_A (ks := ksIt 1) (by rfl) (.tmp 63) (.tmp 65) (by rfl) elemN_item (by rfl) (by rfl) rfl S1.out.cu.df.ds.ts S1.out.cu.df.ds.size L1.out (by decide) LT1.out n64 (by decide) (by omega) ?_; intro A5 c5 w8 T5 ap; have S7 := hide ((S1.out.ext (Ext.alloc _ _)).cu.df.ds.app ap); have P7 := hide ((S1.out.ext (Ext.alloc _ _)).stp S7.out.2.1 S7.out.1); have L7 := hide S7.out.2.2; clear ap)
              | (refine step_append_T (ks := ksIt 1) (by rfl) (.tmp 63) (.tmp 65) (by rfl) elemN_item (by rfl) (by rfl) S1.out.cu.df.ds.ts S1.out.cu.df.ds.size L1.out (by decide) (by rfl) LB.out LT1.out.el (by decide) n64 (by decide) (by omega) ?_; intro A5 c5 w8 T5 ap; have S7 := hide (S1.out.cu.df.ds.app ap); have P7 := hide (S1.out.stp S7.out.2.1 S7.out.1); have L7 := hide S7.out.2.2; clear ap)
              | (go_simp; go_at_call 83; refine (cu.itOwnT (P.out.cu.df.ds.ext (by first | with_reducible exact Ext.drew _ | with_reducible exact Ext.ad)) P.out.l).mono ?_; rintro e w6 ⟨T4, A3, c3, rfl, d3, s3, t3⟩; have S1 := hide ((P.out.ext (by first | with_reducible exact Ext.drew _ | with_reducible exact Ext.ad)).stp s3 d3); have L1 := hide t3; have LT1 := hide (LT.out.mono s3.le); have q6 := S1.out.bi.cell; have xl6 := S1.out.lt; (try with_reducible have LB := hide ((((Bx.newAt P.out.cu.df.ds (show wr.heap.size = wr.heap.size from rfl) #[.slice B1 m d1, .slice B2 m d2, .bool false] 47).ext (Ext.drew _)).stp s3).blk.src)); clear d3 s3 t3)
              | (go_simp; go_at_call 109; refine (cu.pgLateT P7.out.cu.df.ds L7.out).mono ?_; rintro e w9 ⟨T6, A6, c6, rfl, d6, s6, t6⟩; have P8 := hide (P7.out.stp s6 d6); have L8 := hide t6; clear d6 s6 t6))
            all_goals
              have q8 := P8.out.cu.bb.cell
              have bl8 := P8.out.cu.bb.lt
              go_wp2_with fail
              refine (cu.pgGoodT P8.out.cu.df.ds P8.out.cu.s1 P8.out.cu.s2 L8.out _ _ _ _).mono ?_
              rintro e wa ⟨Q, rfl, xa⟩
              have Pa := hide (P8.out.ext xa)
              clear xa
              cases Q
              · go_wp2_with fail
                refine (cu.one_m _ g _ 30 Pa.out.cu.df.ds.cu (by omega) (by unfold InR; omega)).mono ?_
                rintro e wb ⟨Q2, rfl, ca, ka⟩
                have Pb := hide (Pa.out.step (Ext.refl _) ka ca)
                clear ca ka
                cases Q2
                · go_wp2
                  go_roundw
                  case rel => exact ⟨z - 1, j + 1, T6, A, n, c, by go_num, rfl, by omega, by omega, by omega, Pb.out.cu.more (by omega), Pb.out.l⟩
                  case measure => simp [intOf]; omega
                · go_wp2
                  go_roundw
                  case rel => exact ⟨z - 1, j + 1, T6, A6, n + 1, c6, by go_num, rfl, by omega, by omega, by omega, Pb.out.cu.more (by omega), L8.out⟩
                  case measure => simp [intOf]; omega
              · go_wp2
                go_roundw
                case rel => exact ⟨z - 1, j + 1, T6, A6, n + 1, c6, by go_num, rfl, by omega, by omega, by omega, Pa.out.cu.more (by omega), L8.out⟩
                case measure => simp [intOf]; omega
      · obtain rfl : z = 0 := by omega
        skip
        have q0 := V.out.b0.cell
        have f0 := V.out.b0.free
        have q5 := V.out.bb.cell
        go_wp2
        refine bodyPost_ret (v := .tuple #[.agg #[.slice A1 n1 c1, .slice A2 5 c2, .int .i64 rp, .int .i64 q2, .int .i64 q3, .int .i64 q4], .slice A n c]) (by simp [results, Tryz.results81, go_sem, q0]) rfl ?_
        exact ⟨T2, A1, n1, c1, A2, c2, rp, q2, q3, q4, A, n, c, rfl, m1, m2, by omega, (V.out.df.more (by omega)).put6 V.out.b0 (Nat.le_refl _) _ _ _ _ _ _, V.out.s1, V.out.s2, L.out⟩
end Go.Proofs.YtaoeomgehpdedaaGreat

/- Draws of full programmes. -/
namespace Go.Proofs.YtaoeomgehpdedaaGreat
open Go.RowKit Go.Sort
set_option linter.unusedVariables false

theorem DS.lit1 {w0 w : World} {g M : Nat} {T : Typ} (h : DS w0 g 64 M T w) {k : VK} {v : Value} (hv : VT T k v) (e : TypeId) :
    ∃ T', DS w0 g 64 M T' (w.alloc (.cells #[v] e)) ∧ Stp g T w T' (w.alloc (.cells #[v] e)) ∧ ST T' [k] e (some ⟨w.heap.size, 0, none⟩) 1 1 := by
  refine h.lit #[v] 1 e [k] (by decide) (by decide) rfl ?_
  have h1 := (E1.one hv).el
  exact h1.congr (fun q _ => by simp)

set_option maxRecDepth 100000 in
set_option maxHeartbeats 20000000 in
theorem cu.fullProgramme_m (w0 w : World) (g M : Nat) (T : Typ) (h : DS w0 g 64 M T w) (hM : M ≤ 4611686018380000000) :
    Calls Tryz.prog 111 #[.pointer (some ⟨g, 0, none⟩)] w fun e w' => ∃ (T' : Typ) (A1 : Option Addr) (n1 c1 : Nat) (A2 : Option Addr) (c2 : Nat) (r bo k f : Int) (A : Option Addr) (n c : Nat), e = .returned (.tuple #[.agg #[.slice A1 n1 c1, .slice A2 5 c2, .int .i64 r, .int .i64 bo, .int .i64 k, .int .i64 f], .slice A n c]) ∧ 1 ≤ n1 ∧ n1 ≤ 24 ∧ n ≤ 15 ∧ DF w0 w g 64 (M + 10) T T' w' ∧ ST T' ksEl 84 A1 n1 c1 ∧ ST T' [.int] 3 A2 5 c2 ∧ ST T' (ksIt 1) 47 A n c := by
  have hg := h.cg
  have D0 := hide ((DF.start h).ext (Ext.alloc w (.cells zC 26)))
  have B0 := hide (Bx.new h zC 26)
  clear h
  obtain ⟨W1, hW1⟩ : ∃ W1, Hid (W1 = w.alloc (.cells zC 26)) := ⟨_, rfl⟩
  rw [← hW1.out] at D0 B0
  obtain ⟨T1, d1, s1, l1⟩ := LitI D0.out.ds [9, 9, 9, 9, 9] (by decide)
  obtain ⟨W2, hW2⟩ : ∃ W2, Hid (W2 = W1.alloc (.cells #[.int .i64 9, .int .i64 9, .int .i64 9, .int .i64 9, .int .i64 9] 3)) := ⟨_, rfl⟩
  have D2 : Hid (DF w0 w g 64 M T T1 W2) := by rw [hW2.out]; exact D0.out.stp s1 d1
  have B2 : Hid (Bx g T1 W2 w.heap.size zC 26) := by rw [hW2.out]; exact B0.out.stp s1
  have L1 := hide l1
  clear d1 s1 l1 D0 B0
  obtain ⟨b, hb⟩ : ∃ b, Hid (W2.heap.size = b) := ⟨_, rfl⟩
  have U := hide (CoU.mk (A1 := none) (n1 := 0) (c1 := 0) (D2.out.ext (Ext.alloc W2 (.cells #[.slice none 0 0, .slice (some ⟨W1.heap.size, 0, none⟩) 5 5, .int .i64 1, .int .i64 0, .int .i64 80, .int .i64 0] 26))) (B2.out.ext (Ext.alloc _ _)) (Bx.newAt D2.out.ds hb.out _ _) ST.none_ L1.out (by have := B2.out.lt; have := hb.out; omega))
  clear D2 B2 L1
  have E1 : Hid (W1.heap.size = w.heap.size + 1) := by rw [hW1.out]; show _ = _; simp
  rw [E1.out, hW2.out, hW1.out] at U
  have hb2 : Hid (w.heap.size + 1 + 1 = b) := by rw [← hb.out, hW2.out, hW1.out]; show _ = _; simp
  clear hW1 hW2 E1 hb
  obtain ⟨W3, hW3⟩ : ∃ W3, Hid (W3 = ((w.alloc (.cells zC 26)).alloc (.cells #[.int .i64 9, .int .i64 9, .int .i64 9, .int .i64 9, .int .i64 9] 3)).alloc (.cells #[.slice none 0 0, .slice (some ⟨w.heap.size + 1, 0, none⟩) 5 5, .int .i64 1, .int .i64 0, .int .i64 80, .int .i64 0] 26)) := ⟨_, rfl⟩
  rw [← hW3.out] at U
  go_enter Tryz.func111, Tryz.ntmps111
  go_wp2_with fail
  rw [← hW3.out, hb2.out]
  clear hW3 hb2
  refine (cu.pick_m W3 g M 2 U.out.df.ds.cu (by omega) (by unfold InR; omega)).mono ?_
  rintro e w4 ⟨z, rfl, z0, z1, -, ca, ka⟩
  have V := hide (U.out.curs ka ca)
  have z2 := z1 (by omega)
  clear ca ka U z1
  go_wp2_with fail
  refine (cu.namesT V.out.df.ds).mono ?_
  rintro e w5 ⟨T2, x, rfl, d5, s5, n5⟩
  have V2 := hide (V.out.stp s5 d5)
  have N5 := hide n5
  clear d5 s5 n5 V
  go_wp2
  go_loopw [5, 16] (fun s5 s16 wr => ∃ (k : Nat) (T' : Typ) (A1 : Option Addr) (c1 : Nat) (A : Option Addr) (n c : Nat), s16 = .int .i64 k ∧ s5 = .slice A n c ∧ k ≤ 24 ∧ n ≤ k ∧ (n : Int) ≤ 14 + z ∧ CoU w0 w g (M + 2) T T' wr b A1 k c1 (some ⟨w.heap.size + 1, 0, none⟩) 5 5 1 0 80 0 ∧ ST T' [.str] 9 (some ⟨x, 0, none⟩) 24 24 ∧ ST T' (ksIt 1) 47 A n c) (fun _ s16 _ => 24 - (intOf s16).toNat)
  case atStart => exact ⟨0, T2, none, 0, none, 0, 0, by go_num, rfl, by omega, by omega, by omega, V2.out, N5.out, ST.none_⟩
  case round =>
    clear V2 N5
    obtain ⟨k, T3, A1, c1, A, n, c, rfl, rfl, hk, hn, hn2, st, n5, sl⟩ := hrel
    have V := hide st
    have N5 := hide n5
    have L := hide sl
    clear st n5 sl
    by_cases hlt : k < 24
    · have hltz : (k : Int) < 24 := by omega
      skip
      obtain ⟨y, cN, hy⟩ := V.out.df.ds.str N5.out hlt
      have HY := hide hy
      clear hy
      have cA := V.out.cE
      have wl := V.out.bb.lt
      have cB : ∀ lit : Array Value, (wr.alloc (.cells lit 84)).cell? ⟨b, 0, none⟩ = some (.slice A1 k c1) := fun lit => (V.out.ext (Ext.alloc _ _)).cE
      go_upto_if 35 with (at_builtin; refine wpList_append_A (ks := ksEl) (by rfl) (.tmp 22) (.tmp 30) (by rfl) elemN_els (by rfl) (by rfl) rfl V.out.df.ds.ts V.out.df.ds.size V.out.s1 (by decide) (E1.el4 HY.out _ _ _) (by omega) (by decide) (by omega) ?_; intro A3 c3 w6 T6 ap; have S3 := hide ((V.out.ext (Ext.alloc _ _)).appE ap); have cD := S3.out.1.cE; have fD := S3.out.1.free 0; have bl6 := S3.out.1.bb.lt; clear ap)
      have V7 := hide S3.out.2.1
      have N7 := hide (N5.out.mono S3.out.2.2)
      have L7 := hide (L.out.mono S3.out.2.2)
      clear V S3 N5 L cD fD bl6 cA cB cN wl
      generalize w6.setCell ⟨b, 0, none⟩ (.slice A3 (k + 1) c3) = w7 at *
      by_cases hin : (k : Int) < 14 + z
      · obtain ⟨T7, d7, s7, t7⟩ := V7.out.df.ds.lit1 (k := .str) (v := .string (bs y)) (isStr_of HY.out) 9
        have V8 := hide (V7.out.stp s7 d7)
        have N8 := hide (N7.out.mono s7.le)
        have L8 := hide (L7.out.mono s7.le)
        have t7h := hide t7
        clear d7 s7 t7 V7 N7 L7
        obtain ⟨T8, d8, s8, t8⟩ := V8.out.df.ds.lit1 (k := .int) (v := .int .i64 0) ⟨0, rfl⟩ 3
        have V9 := hide (V8.out.stp s8 d8)
        have N9 := hide (N8.out.mono s8.le)
        have L9 := hide (L8.out.mono s8.le)
        have t7k := hide (t7h.out.mono s8.le)
        have e8 : (w7.alloc (.cells #[.string (bs y)] 9)).heap.size = w7.heap.size + 1 := by simp
        rw [e8] at t8
        have t8h := hide t8
        clear d8 s8 t8 V8 N8 L8 t7h e8
        have n64 : n + 1 ≤ 64 := by omega
        go_wp2_with (at_builtin; refine wpList_append_A (ks := ksIt 1) (by rfl) (.tmp 36) (.tmp 41) (by rfl) elemN_item (by rfl) (by rfl) (by simp) V9.out.df.ds.ts V9.out.df.ds.size L9.out (by decide) (it3 t7k.out t8h.out (Nat.le_refl _) (Nat.le_refl _)) n64 (by decide) (by omega) ?_; intro A5 c5 w8 T5 ap; have S7 := hide ((V9.out.ext (Ext.alloc _ _)).df.ds.app ap); have P7 := hide ((V9.out.ext (Ext.alloc _ _)).stp S7.out.2.1 S7.out.1); have L7 := hide S7.out.2.2; have N7 := hide (N9.out.mono S7.out.2.1.le); clear ap)
        go_roundw
        case rel => exact ⟨k + 1, T5, A3, c3, A5, n + 1, c5, by go_num, rfl, by omega, by omega, by omega, P7.out, N7.out, L7.out⟩
        case measure => simp [intOf]; omega
      · go_wp2
        go_roundw
        case rel => exact ⟨k + 1, T6, A3, c3, A, n, c, by go_num, rfl, by omega, by omega, by omega, V7.out, N7.out, L7.out⟩
        case measure => simp [intOf]; omega
    · obtain rfl : k = 24 := by omega
      skip
      have q0 := V.out.b0.cell
      have f0 := V.out.b0.free
      have q5 := V.out.bb.cell
      have bl := V.out.bb.lt
      go_wp2_with fail
      go_region_law (go_simp; go_at_call 109; refine (cu.pgLateT (V.out.df.ds.ext (by first | with_reducible exact Ext.refl _ | with_reducible exact Ext.drew _)) L.out).mono ?_; rintro e w9 ⟨T6, A6, c6, rfl, d6, s6, t6⟩; have V8 := hide ((V.out.ext (by first | with_reducible exact Ext.refl _ | with_reducible exact Ext.drew _)).stp s6 d6); have L8 := hide t6; have r0 := V8.out.b0.cell; have rf := V8.out.b0.free; have r5 := V8.out.bb.cell; clear d6 s6 t6)
      all_goals
        go_wp2
        refine bodyPost_ret (v := .tuple #[.agg #[.slice A1 24 c1, .slice (some ⟨w.heap.size + 1, 0, none⟩) 5 5, .int .i64 1, .int .i64 0, .int .i64 80, .int .i64 0], .slice A6 n c6]) (by simp [results, Tryz.results111, go_sem, r0]) rfl ?_
        exact ⟨T6, A1, 24, c1, _, 5, 1, 0, 80, 0, A6, n, c6, rfl, by omega, by omega, by omega, (V8.out.df.more (by omega)).put6 V8.out.b0 (Nat.le_refl _) _ _ _ _ _ _, V8.out.s1, V8.out.s2, L8.out⟩
end Go.Proofs.YtaoeomgehpdedaaGreat

/- Draws of programmes: any programme. -/
namespace Go.Proofs.YtaoeomgehpdedaaGreat
open Go.RowKit Go.Sort
set_option linter.unusedVariables false

section
variable {w0 ws w w' : World} {g M M' b : Nat} {Ts T T' : Typ} {A1 : Option Addr} {n1 c1 : Nat} {A2 : Option Addr} {n2 c2 : Nat} {r bo k f : Int}
/-- A cell of a typed row stored. -/
theorem CoU.putT (h : CoU w0 ws g M Ts T w b A1 n1 c1 A2 n2 c2 r bo k f) {x m c i j : Nat} {ks : List VK} {e : TypeId} {kd : VK} {u : Value} (hT : T x = some (ks, e, m, c)) (hj : ks[j]? = some kd) (hu : VT T kd u) : CoU w0 ws g M Ts T (w.setCell ⟨x, i * ks.length + j, none⟩ u) b A1 n1 c1 A2 n2 c2 r bo k f := by
  have hn : T x ≠ none := by rw [hT]; simp
  exact ⟨h.df.store hT (i := i) hj hu, h.b0.store hn _ _, h.bb.store hn _ _, h.s1, h.s2, h.hb⟩
theorem CoU.put1 (h : CoU w0 ws g M Ts T w b A1 n1 c1 A2 n2 c2 r bo k f) {x m c : Nat} {e : TypeId} {kd : VK} {u : Value} (hT : T x = some ([kd], e, m, c)) (i : Nat) (hu : VT T kd u) : CoU w0 ws g M Ts T (w.setCell ⟨x, i, none⟩ u) b A1 n1 c1 A2 n2 c2 r bo k f := by
  have d := h.putT hT (i := i) (j := 0) rfl hu
  have e2 : i * ([kd] : List VK).length + 0 = i := by simp
  rw [e2] at d
  exact d
end
theorem cell_step {w wx w' : World} {g : Nat} {p : Addr} {v : Value} (h : w.cell? p = some v) (y : Ext w wx) (z : TchF [g] wx w') (hp : p.block < w.heap.size) (hg : p.block ≠ g) : w'.cell? p = some v := by
  have h1 := y.cell hp
  rw [z.cell (Nat.lt_of_lt_of_le hp y.size) (by simpa using hg), h1, h]
/-- One row alone. -/
def Typ.only (x : Nat) : Typ := Typ.put (fun _ => none) x ([.str], 9, 24, 24)
theorem cu.namesX {w0 w : World} {g M : Nat} {T : Typ} (h : DS w0 g 64 M T w) :
    Calls Tryz.prog 113 #[] w fun e w' => ∃ x : Nat, e = .returned (.slice (some ⟨x, 0, none⟩) 24 24) ∧ Ext w w' ∧ w.heap.size ≤ x ∧ DS w0 g 64 M (Typ.only x) w' ∧ ST (Typ.only x) [.str] 9 (some ⟨x, 0, none⟩) 24 24 := by
  refine (cu.names_m w).mono ?_
  rintro e w' ⟨x, vs, rfl, hb, hl, hv, hx, hk⟩
  have d := h.ext hk
  have t0 : TS w0.heap.size 64 (fun _ => none) w' := ⟨by simp, by simp⟩
  obtain ⟨t2, _⟩ := t0.add (ks := [.str]) (m := 24) (c := 24) rfl (by have := h.size; omega) hb (by decide) (by decide) (by decide) (by simpa using hl) (fun i hi j k hk => by
    obtain rfl : j = 0 := by have := (List.getElem?_eq_some_iff.1 hk).1; simp at this; omega
    simp at hk
    subst hk
    have hi2 : i < vs.length := by omega
    exact ⟨vs[i], by simp [hi2], hv _ (List.getElem_mem hi2)⟩)
  exact ⟨x, rfl, hk, hx, ⟨t2, d.cu, d.tch, d.hg⟩, .inr ⟨x, 24, rfl, Typ.put_same _ _ _, Nat.le_refl _⟩⟩
theorem ap_ext {lo L x n' c' : Nat} {ks : List VK} {e : TypeId} {wr w w' : World} {A' : Option Addr} {T' : Typ} (ap : ApT lo L (Typ.only x) ks e w n' w' A' c' T') (X : Ext wr w) (hx : wr.heap.size ≤ x) : Ext wr w' := by
  rcases ap.fp with k | ⟨b, hb, k⟩
  · exact X.tchF k (by simp)
  · refine X.tchF k (fun i hi => ?_)
    simp at hi
    subst hi
    by_cases e : i = x
    · subst e; exact hx
    · exact absurd (Typ.put_other e) hb
theorem EL.ofList {T : Typ} {k : VK} (l : List Value) (h : ∀ v ∈ l, VT T k v) : EL T [k] l.length (fun q => l[q]?) := fun i hi j k' hk => by
  obtain rfl : j = 0 := by have := (List.getElem?_eq_some_iff.1 hk).1; simp at this; omega
  simp at hk
  subst hk
  exact ⟨l[i], by simp [hi], h _ (List.getElem_mem hi)⟩
/-- The cells of a typed row's first elements. -/
theorem TS.cells {lo L : Nat} {T : Typ} {w : World} {ks : List VK} {e : TypeId} {x n c m : Nat} (h : TS lo L T w) (s : ST T ks e (some ⟨x, 0, none⟩) n c) (hm : m ≤ n) (h0 : 0 < m) : ∃ news : List Value, news.length = m * ks.length ∧ (∀ j u, news[j]? = some u → w.cell? ⟨x, 0 + j, none⟩ = some u) ∧ EL T ks m (fun q => news[q]?) := by
  obtain ⟨b, m0, e1, hb, hn⟩ := s.pos (by omega)
  obtain rfl : x = b := congrArg Addr.block (Option.some.inj e1)
  obtain ⟨h1, h2, h3, cur, h4, h5, h6⟩ := h.row x ks e m0 c hb
  have hle : m * ks.length ≤ c * ks.length := Nat.mul_le_mul_right _ (by omega)
  refine ⟨cur.toList.take (m * ks.length), by rw [List.length_take]; simp only [Array.length_toList]; omega, fun j u hu => ?_, ?_⟩
  · rw [Nat.zero_add, cell_of_row w x j cur e (0, 0) h4]
    rw [List.getElem?_take] at hu
    split at hu
    · simpa using hu
    · cases hu
  · have hs : EL T ks m (fun q => cur[q]?) := fun i hi => h6 i (by omega)
    exact hs.congr (fun q hq => by
      show (cur.toList.take _)[q]? = _
      rw [List.getElem?_take, if_pos hq]
      simp)
abbrev AnyPgPost (w0 w : World) (g M : Nat) (T : Typ) (e : Ending) (w' : World) : Prop := ∃ (T' : Typ) (A1 : Option Addr) (n1 c1 : Nat) (A2 : Option Addr) (n2 c2 : Nat) (r bo k f : Int) (A : Option Addr) (n c p : Nat), e = .returned (.tuple #[.agg #[.slice A1 n1 c1, .slice A2 n2 c2, .int .i64 r, .int .i64 bo, .int .i64 k, .int .i64 f], .slice A n c]) ∧ n1 ≤ 25 ∧ n2 ≤ 6 ∧ n ≤ 15 ∧ DF w0 w g 64 M T T' w' ∧ ST T' ksEl 84 A1 n1 c1 ∧ ST T' [.int] 3 A2 n2 c2 ∧ ST T' (ksIt p) 47 A n c

set_option maxRecDepth 100000 in
set_option maxHeartbeats 20000000 in
theorem cu.anyProgramme_m (w0 w : World) (g M : Nat) (T : Typ) (h : DS w0 g 64 M T w) (hM : M ≤ 4611686018370000000) :
    Calls Tryz.prog 82 #[.pointer (some ⟨g, 0, none⟩)] w fun e w' => AnyPgPost w0 w g (M + 2400) T e w' := by
  have hg := h.cg
  have D0 := hide ((DF.start h).ext (Ext.alloc w (.cells zC 26)))
  have B0 := hide (Bx.new h zC 26)
  clear h
  go_enter Tryz.func82, Tryz.ntmps82
  go_wp2_with fail
  refine (cu.one_m _ g M 24 D0.out.ds.cu (by omega) (by unfold InR; omega)).mono ?_
  rintro e w1 ⟨B, rfl, ca, ka⟩
  have D1 := hide (D0.out.curs ka ca)
  have B1 := hide (B0.out.curs ka)
  clear ca ka D0 B0
  cases B
  · go_wp2_with fail
    refine (cu.programme_m w0 w1 g _ T D1.out.ds (by omega)).mono ?_
    rintro e w2 ⟨T1, A1, n1, c1, A2, c2, rp, q2, q3, q4, A, n, c, rfl, m1, m2, hn, f1, t1, t2, t3⟩
    have D2 := hide (D1.out.call f1)
    have B2 := hide (B1.out.stp f1.sp)
    obtain ⟨b, hb⟩ : ∃ b, Hid (w2.heap.size = b) := ⟨_, rfl⟩
    have U := hide (CoU.mk (D2.out.ext (Ext.alloc w2 (.cells #[.slice A1 n1 c1, .slice A2 5 c2, .int .i64 rp, .int .i64 q2, .int .i64 q3, .int .i64 q4] 26))) (B2.out.ext (Ext.alloc _ _)) (Bx.newAt D2.out.ds hb.out _ _) t1 t2 (by have := B2.out.lt; have := hb.out; omega))
    have L := hide t3
    clear f1 t1 t2 t3 D2 B2 D1 B1
    go_upto_region 4 with fail
    rw [hb.out]
    clear hb
    generalize w2.alloc (.cells #[.slice A1 n1 c1, .slice A2 5 c2, .int .i64 rp, .int .i64 q2, .int .i64 q3, .int .i64 q4] 26) = w3 at *
    go_cut [24] (fun s24 wx => ∃ Q, s24 = .bool Q ∧ (Q = false → 0 < n) ∧ CoU w0 w g (M + 1204) T T1 wx b A1 n1 c1 A2 5 c2 rp q2 q3 q4)
    case first =>
      by_cases h0 : n = 0
      · subst h0
        go_wp2
        go_meet
        exact ⟨true, rfl, by simp, U.out.more (by omega)⟩
      · have hz : ((n : Int) == 0) = false := by simp; omega
        go_wp2_with fail
        refine (cu.one_m _ g _ 12 U.out.df.ds.cu (by omega) (by unfold InR; omega)).mono ?_
        rintro e w4 ⟨Q, rfl, ca, ka⟩
        go_wp2
        go_meet
        exact ⟨Q, rfl, fun _ => by omega, (U.out.curs ka ca).more (by omega)⟩
    case rest =>
      obtain ⟨Q, rfl, hQ, st⟩ := hcut
      clear U
      have U := hide st
      clear st
      have hc := hide (U.out.df.ds.ts.len L.out)
      have hc1 := hc.out.2.1
      have hc2 := hc.out.2.2
      unfold maxLen at hc2
      clear hc
      cases Q
      · have hn0 := hQ rfl
        clear hQ
        skip
        have n9 : (n : Int) ≤ 9 := by omega
        go_wp2_with fail
        refine (cu.pick_m _ g _ n U.out.df.ds.cu (by omega) (by unfold InR; omega)).mono ?_
        rintro e w4 ⟨ii, rfl, i0, i1, -, ca, ka⟩
        obtain ⟨i, rfl⟩ : ∃ i : Nat, ii = i := ⟨ii.toNat, by omega⟩
        have hi : i < n := by have := i1 (by omega); omega
        have hiz : (i : Int) < (n : Int) := by omega
        have U1 := hide (U.out.curs ka ca)
        clear ca ka i1 i0 U
        go_wp2_with fail
        refine (cu.pick_m _ g _ 16 U1.out.df.ds.cu (by omega) (by unfold InR; omega)).mono ?_
        rintro e w5 ⟨q, rfl, -, -, -, ca, ka⟩
        have V := hide (U1.out.curs ka ca)
        clear ca ka U1
        obtain ⟨x, B1, k1, d1, B2, k2, d2, late, hA, p1, p2, s1, s2, hTx, xl, e0, e1, e2⟩ := V.out.df.ds.it3 L.out hi
        subst hA
        have S1 := hide s1
        have S2 := hide s2
        have xg := (V.out.df.ds.lo hTx).2.2
        clear s1 s2
        go_upto_block 0 with fail
        go_cut [5] (fun s5 wx => ∃ (T' : Typ) (r' : Int) (A : Option Addr) (n c p : Nat), s5 = .slice A n c ∧ n ≤ 15 ∧ CoU w0 w g (M + 2300) T T' wx b A1 n1 c1 A2 5 c2 r' q2 q3 q4 ∧ ST T' (ksIt p) 47 A n c)
        case first =>
          by_cases h0 : q = 0
          · subst h0
            skip
            obtain ⟨y, my, hB, hTy, hy⟩ := S2.out.pos (show 0 < k2 from p2)
            subst hB
            have TY := hide hTy
            have k2p : 0 < k2 := p2
            clear hTy
            go_wp2_with fail
            go_region_law (go_simp; go_at_call 48; refine (cu.pick_m _ g _ _ (V.out.df.ds.cu.ext (by first | with_reducible exact Ext.refl _ | with_reducible exact Ext.drew _)) (by omega) (by unfold InR; omega)).mono ?_; rintro e w6 ⟨z, rfl, -, -, -, ca, ka⟩; have f1 := cell_step e1 (by first | with_reducible exact Ext.refl _ | with_reducible exact Ext.drew _) ka xl xg; have SC := hide (V.out.step (by first | with_reducible exact Ext.refl _ | with_reducible exact Ext.drew _) ka ca); obtain ⟨y', v6, ex6, e6, -, -, -, hT6⟩ := SC.out.df.ds.ts.load S2.out (show 0 < k2 from p2) (show [VK.int][0]? = some .int from rfl); obtain rfl : y' = y := (congrArg Addr.block (Option.some.inj ex6)).symm; have e6' : w6.cell? ⟨y', 0, none⟩ = some v6 := (by simpa using e6); have f6 := SC.out.df.ds.ts.free hT6; clear ca ka e6)
            all_goals
              go_wp2
              go_meet
              exact ⟨T1, rp, _, n, c, 1, rfl, by omega, (SC.out.put1 TY.out 0 ⟨_, rfl⟩).more (by omega), L.out⟩
          have b0 : (q == 0) = false := by simp [h0]
          by_cases h1 : q = 1
          · subst h1
            skip
            obtain ⟨x', mx, hx', hTx2, hx⟩ := L.out.pos hn0
            obtain rfl : x = x' := congrArg Addr.block (Option.some.inj hx')
            have fx := V.out.df.ds.ts.free hTx
            have TX := hide hTx2
            clear hTx2 hx'
            go_wp2
            go_meet
            exact ⟨T1, rp, _, n, c, 1, rfl, by omega, (V.out.putT TX.out (i := i) (j := 2) (kd := .bool) rfl ⟨_, rfl⟩).more (by omega), L.out⟩
          have b1 : (q == 1) = false := by simp [h1]
          by_cases h2 : q = 2
          · subst h2
            skip
            obtain ⟨y, my, hB, hTy, hy⟩ := S1.out.pos (show 0 < k1 from p1)
            subst hB
            have TY := hide hTy
            have k1p : 0 < k1 := p1
            have E2 : Hid (∀ T' : Typ, EL T' [.str] 2 (fun q => [Value.string { data := #[81, 81] }, .string { data := #[] }][q]?)) := fun T' => EL.ofList [Value.string { data := #[81, 81] }, .string { data := #[] }] (by
              intro v hv
              simp only [List.mem_cons, List.not_mem_nil, or_false] at hv
              rcases hv with h | h <;> subst h
              · exact ⟨_, rfl, by decide⟩
              · exact ⟨[], rfl, by decide⟩)
            have h0 := ((Ext.alloc w5 (.cells #[.string { data := #[81, 81] }, .string { data := #[] }] 9)).cell xl).trans e0
            clear hTy
            go_wp2_with fail
            go_region_law (first
              | (refine step_append_T (ks := [.str]) (by rfl) (.tmp 64) (.tmp 65) (by rfl) elemN_str (by rfl) (by rfl) (AX.out.ext (Ext.alloc _ _)).ts (AX.out.ext (Ext.alloc _ _)).size NX.out (by decide) (by rfl) (srcA rfl) (E2.out _) (by decide) (by decide) (by decide) (by decide) ?_; intro A5 c5 w8 T5 ap; have X8 := hide (ap_ext ap (XX.out.trans (Ext.alloc _ _)) HX.out); have A8 := hide ((AX.out.ext (Ext.alloc _ _)).app ap); have f0 := (X8.out.cell xl).trans e0; clear ap)
              | (refine step_append_T (ks := [.str]) (by rfl) (.tmp 64) (.tmp 65) (by rfl) elemN_str (by rfl) (by rfl) AX.out.ts AX.out.size NX.out (by decide) (by rfl) LB.out (E2.out _) (by decide) (by decide) (by decide) (by decide) ?_; intro A5 c5 w8 T5 ap; have X8 := hide (ap_ext ap XX.out HX.out); have A8 := hide (AX.out.app ap); have f0 := (X8.out.cell xl).trans e0; clear ap)
              | (go_simp; go_at_call 101; refine (cu.ofT A8.out.1 (by omega) A8.out.2.2 (by decide)).mono ?_; rintro e w9 ⟨yy, rfl, hyy, ca, ka⟩; have HYY := hide hyy; have SC := hide ((V.out.ext X8.out).curs ka ca); have f1 := cell_step e0 X8.out ka xl xg; obtain ⟨y', v6, ex6, e6, -, -, -, hT6⟩ := SC.out.df.ds.ts.load S1.out (show 0 < k1 from p1) (show [VK.str][0]? = some .str from rfl); obtain rfl : y' = y := (congrArg Addr.block (Option.some.inj ex6)).symm; have e6' : w9.cell? ⟨y', 0, none⟩ = some v6 := (by simpa using e6); have f6 := SC.out.df.ds.ts.free hT6; clear ca ka e6 hyy)
              | (go_simp; go_at_call 113; refine (cu.namesX (V.out.df.ds.ext (by first | with_reducible exact Ext.refl _ | with_reducible exact Ext.drew _ | with_reducible exact Ext.ad))).mono ?_; rintro e w6 ⟨xn, rfl, xx, hxn, ax, nx⟩; have XX := hide ((show Ext w5 _ from (by first | with_reducible exact Ext.refl _ | with_reducible exact Ext.drew _ | with_reducible exact Ext.ad)).trans xx); have HX := hide (Nat.le_trans (show Ext w5 _ from (by first | with_reducible exact Ext.refl _ | with_reducible exact Ext.drew _ | with_reducible exact Ext.ad)).size hxn); have AX := hide ax; have NX := hide nx; have g0 := (XX.out.cell xl).trans e0; have g1 := ((XX.out.trans (Ext.alloc _ (.cells #[.string { data := #[81, 81] }, .string { data := #[] }] 9))).cell xl).trans e0; (try with_reducible have LB := hide ((Blk.newD rfl #[.string { data := #[81, 81] }, .string { data := #[] }] 9).ext xx).src); clear xx hxn ax nx))
            all_goals
              go_wp2
              go_meet
              exact ⟨T1, rp, _, n, c, 1, rfl, by omega, (SC.out.put1 TY.out 0 (isStr_of HYY.out)).more (by omega), L.out⟩
          have b2 : (q == 2) = false := by simp [h2]
          by_cases h3 : q = 3
          · subst h3
            skip
            obtain ⟨y, my, hB, hTy, hy⟩ := V.out.s2.pos (by omega)
            subst hB
            clear hTy hy
            have SC := hide V.out
            have cA := SC.out.cL
            have bl := SC.out.bb.lt
            go_wp2_with fail
            go_region_law (first
              | (go_simp; go_at_call 48; have hh := hix; refine (cu.pick_m _ g _ _ (SC.out.df.ds.cu.ext (by first | with_reducible exact Ext.refl _ | with_reducible exact Ext.drew _)) (by omega) (by unfold InR; omega)).mono ?_; rintro e w8 ⟨z, rfl, -, -, -, c8, k8⟩; have SC := hide (SC.out.step (by first | with_reducible exact Ext.refl _ | with_reducible exact Ext.drew _) k8 c8); have cA := SC.out.cL; have bl := SC.out.bb.lt; obtain ⟨z0, ez, fz, -⟩ := SC.out.lim rfl (show ix < 5 by omega); clear c8 k8 hh)
              | (go_simp; go_at_call 48; refine (cu.pick_m _ g _ _ (SC.out.df.ds.cu.ext (by first | with_reducible exact Ext.refl _ | with_reducible exact Ext.drew _)) (by omega) (by unfold InR; omega)).mono ?_; rintro e w7 ⟨zi, rfl, zi0, zi1, -, c7, k7⟩; obtain ⟨ix, rfl⟩ : ∃ ix : Nat, zi = ix := ⟨zi.toNat, by omega⟩; have hix : (ix : Int) < 5 := zi1 (by omega); have SC := hide (SC.out.step (by first | with_reducible exact Ext.refl _ | with_reducible exact Ext.drew _) k7 c7); have cA := SC.out.cL; have bl := SC.out.bb.lt; clear c7 k7 zi1))
            all_goals
              go_wp2
              go_meet
              exact ⟨T1, rp, _, n, c, 1, rfl, by omega, (SC.out.putL rfl (show ix < 5 by omega) z).more (by omega), L.out⟩
          have b3 : (q == 3) = false := by simp [h3]
          by_cases h4 : q = 4
          · subst h4
            skip
            have fb := V.out.free 2
            have cb := V.out.bb.cell 2
            have bl := V.out.bb.lt
            have W := hide (V.out.setF 2 (.int .i64 1) (r' := 1) rfl)
            go_upto_region 18 with fail
            generalize w5.setCell ⟨b, 2, none⟩ (.int .i64 1) = w6 at *
            go_wp2_with fail
            refine (cu.itOwnT W.out.df.ds L.out).mono ?_
            rintro e w7 ⟨T4, A4, c4, rfl, d4, s4, t4⟩
            have W1 := hide (W.out.stp s4 d4)
            have L1 := hide (L.out.mono s4.le)
            have M1 := hide t4
            clear d4 s4 t4 W fb cb bl
            go_wp2_with fail
            refine (cu.itOwnT W1.out.df.ds L1.out).mono ?_
            rintro e w8 ⟨T5, A5, c5, rfl, d5, s5, t5⟩
            have W2 := hide (W1.out.stp s5 d5)
            have M2 := hide (M1.out.mono s5.le)
            have N2 := hide t5
            clear d5 s5 t5 W1 L1 M1
            obtain ⟨y5, my, hA5, -, -⟩ := N2.out.pos hn0
            subst hA5
            obtain ⟨m, hm, m0, mn, m5⟩ : ∃ m : Nat, Hid ((if (n : Int) < 5 then (n : Int) else 5) = m) ∧ 0 < m ∧ m ≤ n ∧ m ≤ 5 := by
              by_cases h : (n : Int) < 5
              · exact ⟨n, by show _ = _; rw [if_pos h], hn0, Nat.le_refl _, by omega⟩
              · exact ⟨5, by show _ = _; rw [if_neg h]; rfl, by decide, by omega, Nat.le_refl _⟩
            have LE : Hid (∀ w, Calls Tryz.prog 84 #[.int .i64 n, .int .i64 5] w fun e w' => e = .returned (.int .i64 (m : Nat)) ∧ w' = w) := fun w => by rw [← hm.out]; exact cu.least_m n 5 w
            have hl5 := hide (W2.out.df.ds.ts.len N2.out)
            have mc : (m : Int) ≤ c5 := by have := hl5.out.2.1; omega
            have c5m : c5 ≤ 9223372036854775807 := by have := hl5.out.2.2; unfold maxLen at this; omega
            obtain ⟨news, nl, ns, ne⟩ := W2.out.df.ds.ts.cells N2.out mn m0
            have NS := hide ns
            have NE := hide ne
            have NL := hide nl
            have nm64 : n + m ≤ 64 := by omega
            clear ns ne nl hm
            go_wp2_with (first
              | (go_at_call 84; refine (LE.out _).mono ?_; rintro e w' ⟨rfl, rfl⟩)
              | (at_builtin; refine wpList_append_T (ks := ksIt 1) (by rfl) (.tmp 82) (.tmp 88) (by rfl) elemN_item (by rfl) (by rfl) W2.out.df.ds.ts W2.out.df.ds.size M2.out (by decide) NL.out NS.out NE.out m0 nm64 (by decide) (by omega) ?_; intro A6 c6 w9 T6 ap; have S7 := hide (W2.out.df.ds.app ap); have W3 := hide (W2.out.stp S7.out.2.1 S7.out.1); have M3 := hide S7.out.2.2; clear ap)
              | (go_at_call 109; refine (cu.pgLateT W3.out.df.ds M3.out).mono ?_; rintro e wa ⟨T7, A7, c7, rfl, d7, s7, t7⟩; have W4 := hide (W3.out.stp s7 d7); have M4 := hide t7; clear d7 s7 t7))
            go_meet
            exact ⟨T7, 1, A7, n + m, c7, 1, rfl, by omega, W4.out.more (by omega), M4.out⟩
          have b4 : (q == 4) = false := by simp [h4]
          by_cases h5 : q = 5
          · subst h5
            skip
            go_wp2_with fail
            refine (cu.anyItems_m w0 w5 g _ T1 V.out.df.ds (by omega)).mono ?_
            rintro e w6 ⟨T3, A3, n3, c3, rfl, hn3, f3, s3⟩
            go_wp2
            go_meet
            exact ⟨T3, rp, A3, n3, c3, 0, rfl, hn3, (V.out.stp f3.sp f3.ds).more (by omega), s3⟩
          have b5 : (q == 5) = false := by simp [h5]
          skip
          go_wp2
          go_meet
          exact ⟨T1, rp, _, n, c, 1, rfl, by omega, V.out.more (by omega), L.out⟩
        case rest =>
          obtain ⟨T3, r3, A3, n3, c3, p3, rfl, hn3, st, sl⟩ := hcut
          have U1 := hide st
          have L1 := hide sl
          clear st sl V
          skip
          have q0 := U1.out.b0.cell
          have f0 := U1.out.b0.free
          have q5 := U1.out.bb.cell
          go_wp2
          refine bodyPost_ret (v := .tuple #[.agg #[.slice A1 n1 c1, .slice A2 5 c2, .int .i64 r3, .int .i64 q2, .int .i64 q3, .int .i64 q4], .slice A3 n3 c3]) (by simp [results, Tryz.results82, go_sem, q0]) rfl ?_
          exact ⟨T3, A1, n1, c1, A2, 5, c2, r3, q2, q3, q4, A3, n3, c3, p3, rfl, by omega, by omega, hn3, (U1.out.df.more (by omega)).put6 U1.out.b0 (Nat.le_refl _) _ _ _ _ _ _, U1.out.s1, U1.out.s2, L1.out⟩
      · skip
        go_wp2_with fail
        refine (cu.anyCodeT w0 _ g _ T1 U.out.df.ds (by omega)).mono ?_
        rintro e w5 ⟨T3, A3, n3, c3, A4, n4, c4, r5, r6, r7, r8, rfl, h3, h4, f3, s3, s4⟩
        have D3 := hide (U.out.df.call f3)
        have B3 := hide (U.out.b0.stp f3.sp)
        have L3 := hide (L.out.mono f3.sp.le)
        have S3 := hide s3
        have S4 := hide s4
        clear f3 s3 s4 U
        have q0 := B3.out.cell
        have f0 := B3.out.free
        go_wp2
        refine bodyPost_ret (v := .tuple #[.agg #[.slice A3 n3 c3, .slice A4 n4 c4, .int .i64 r5, .int .i64 r6, .int .i64 r7, .int .i64 r8], .slice A n c]) (by simp [results, Tryz.results82, go_sem, q0]) rfl ?_
        exact ⟨T3, A3, n3, c3, A4, n4, c4, r5, r6, r7, r8, A, n, c, 1, rfl, h3, h4, by omega, (D3.out.more (by omega)).put6 B3.out (Nat.le_refl _) _ _ _ _ _ _, S3.out, S4.out, L3.out⟩
  · skip
    go_wp2_with fail
    refine (cu.fullProgramme_m w0 w1 g _ T D1.out.ds (by omega)).mono ?_
    rintro e w2 ⟨T1, A1, n1, c1, A2, c2, rp, q2, q3, q4, A, n, c, rfl, m1, m2, hn, f1, t1, t2, t3⟩
    have D2 := hide (D1.out.call f1)
    have B2 := hide (B1.out.stp f1.sp)
    have S1 := hide t1
    have S2 := hide t2
    have S3 := hide t3
    clear f1 t1 t2 t3 D1 B1
    have q0 := B2.out.cell
    have f0 := B2.out.free
    go_wp2
    refine bodyPost_ret (v := .tuple #[.agg #[.slice A1 n1 c1, .slice A2 5 c2, .int .i64 rp, .int .i64 q2, .int .i64 q3, .int .i64 q4], .slice A n c]) (by simp [results, Tryz.results82, go_sem, q0]) rfl ?_
    exact ⟨T1, A1, n1, c1, A2, 5, c2, rp, q2, q3, q4, A, n, c, 1, rfl, by omega, by omega, hn, (D2.out.more (by omega)).put6 B2.out (Nat.le_refl _) _ _ _ _ _ _, S1.out, S2.out, S3.out⟩
end Go.Proofs.YtaoeomgehpdedaaGreat

/- Draws for the laws on programmes. -/
namespace Go.Proofs.YtaoeomgehpdedaaGreat
open Go.RowKit Go.Sort
set_option linter.unusedVariables false

theorem any_jd {w0 w w' : World} {g M : Nat} {T : Typ} {e : Ending} (h : AnyPgPost w0 w g M T e w') : JdPost w0 g e w' := by
  obtain ⟨T', A1, n1, c1, A2, n2, c2, r, bo, k, f, A, n, c, p, rfl, -, -, -, d, s1, s2, s3⟩ := h
  exact ⟨A1, n1, c1, A2, n2, c2, r, bo, k, f, A, n, c, rfl, d.ds.ts.code s1 s2 r bo k f, (d.ds.ts.row_it s3).ls d.ds.ts, d.ds.tch⟩
/-- A code, a list and the result's box under way in a draw. -/
structure RgU (W0 : World) (g M : Nat) (T : Typ) (w : World) (b z0 : Nat) (A1 : Option Addr) (n1 c1 : Nat) (A2 : Option Addr) (n2 c2 : Nat) (r bo k f : Int) (A : Option Addr) (n c p : Nat) : Prop where
  df : DF W0 W0 g 64 M (fun _ => none) T w
  bb : Bx g T w b #[.slice A1 n1 c1, .slice A2 n2 c2, .int .i64 r, .int .i64 bo, .int .i64 k, .int .i64 f] 26
  bz : Blk w z0 zC 26
  zl : z0 < g
  s1 : ST T ksEl 84 A1 n1 c1
  s2 : ST T [.int] 3 A2 n2 c2
  l : ST T (ksIt p) 47 A n c
section
variable {W0 w w' : World} {g M M' b z0 n1 c1 n2 c2 n c p : Nat} {T T' : Typ} {A1 A2 A : Option Addr} {r bo k f : Int}
theorem RgU.stp (h : RgU W0 g M T w b z0 A1 n1 c1 A2 n2 c2 r bo k f A n c p) (s : Stp g T w T' w') (d : DS W0 g 64 M' T' w') : RgU W0 g M' T' w' b z0 A1 n1 c1 A2 n2 c2 r bo k f A n c p :=
  ⟨h.df.stp s d, h.bb.stp s, h.bz.kt s.kt (by have := h.zl; omega) (h.df.ds.ts.none_lo (by have := h.zl; have := h.df.ds.hg; omega)), h.zl, h.s1.mono s.le, h.s2.mono s.le, h.l.mono s.le⟩
theorem RgU.ext (h : RgU W0 g M T w b z0 A1 n1 c1 A2 n2 c2 r bo k f A n c p) (x : Ext w w') : RgU W0 g M T w' b z0 A1 n1 c1 A2 n2 c2 r bo k f A n c p := h.stp (Stp.of_ext x) (h.df.ds.ext x)
theorem RgU.step {wx : World} (h : RgU W0 g M T w b z0 A1 n1 c1 A2 n2 c2 r bo k f A n c p) (x : Ext w wx) (y : TchF [g] wx w') (z : Cur w' g M') : RgU W0 g M' T w' b z0 A1 n1 c1 A2 n2 c2 r bo k f A n c p := (h.ext x).stp (Stp.of_cur y) ((h.ext x).df.ds.curs y z)
theorem RgU.more (h : RgU W0 g M T w b z0 A1 n1 c1 A2 n2 c2 r bo k f A n c p) (hm : M ≤ M') : RgU W0 g M' T w b z0 A1 n1 c1 A2 n2 c2 r bo k f A n c p := ⟨h.df.more hm, h.bb, h.bz, h.zl, h.s1, h.s2, h.l⟩
theorem RgU.out (h : RgU W0 g M T w b z0 A1 n1 c1 A2 n2 c2 r bo k f A n c p) (w0 : World) (hz : z0 = w0.heap.size) (X : Ext w0 W0) (u0 u1 u2 u3 u4 u5 : Value) : CoR w0.heap.size (set6 w z0 u0 u1 u2 u3 u4 u5) (.agg #[.slice A1 n1 c1, .slice A2 n2 c2, .int .i64 r, .int .i64 bo, .int .i64 k, .int .i64 f]) ∧ LsR w0.heap.size (set6 w z0 u0 u1 u2 u3 u4 u5) A n c ∧ Ext w0 (set6 w z0 u0 u1 u2 u3 u4 u5) := by
  have hg := h.df.ds.hg
  have zl := h.zl
  have hX := X.size
  have sn := Since.put6 (lo := W0.heap.size) w (show z0 < W0.heap.size by omega) u0 u1 u2 u3 u4 u5
  exact ⟨((h.df.ds.ts.code h.s1 h.s2 r bo k f).since sn).less hX, (((h.df.ds.ts.row_it h.l).ls h.df.ds.ts).since sn).less hX, (h.df.ds.tch.ext0 X (by omega)).tchF (set6_tch _ _ _ _ _ _ _ _) (by simp; omega)⟩
end
abbrev RGPost (w : World) (e : Ending) (w' : World) : Prop := ∃ (A1 : Option Addr) (n1 c1 : Nat) (A2 : Option Addr) (n2 c2 : Nat) (r bo k f : Int) (A : Option Addr) (n c : Nat) (z : Int) (y : List UInt8), e = .returned (.tuple #[.agg #[.slice A1 n1 c1, .slice A2 n2 c2, .int .i64 r, .int .i64 bo, .int .i64 k, .int .i64 f], .slice A n c, .int .i64 z, .string (bs y)]) ∧ y.length ≤ 16 ∧ InR z ∧
  CoR w.heap.size w' (.agg #[.slice A1 n1 c1, .slice A2 n2 c2, .int .i64 r, .int .i64 bo, .int .i64 k, .int .i64 f]) ∧ LsR w.heap.size w' A n c ∧ Ext w w'
end Go.Proofs.YtaoeomgehpdedaaGreat
