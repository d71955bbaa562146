/- A sheet drawn. (Printed by kf.py.) -/
import Derived.Test.YtofmfagdaiphaaaJE
import Derived.Test.YtofmfagdaiphaaaJL
import Derived.Test.YtofmfagdaiphaaaGE
import Derived.Deep.DeepCutAuto
import Derived.Deep.RegionHeld3
namespace Go.Proofs.Ytofmfagdaiphaaa
open Go.RowKit Go.Sort
set_option linter.unusedVariables false
set_option linter.unusedSimpArgs false

abbrev SHPost (w : World) (g M : Nat) (e : Ending) (w' : World) : Prop := ∃ (Ai : Option Addr) (ni ci : Nat) (Av : Option Addr) (nv cv : Nat) (Ar : Option Addr) (nr cr : Nat), e = .returned (.agg #[.slice Ai ni ci, .slice Av nv cv, .slice Ar nr cr]) ∧ ShR w.heap.size w' (.agg #[.slice Ai ni ci, .slice Av nv cv, .slice Ar nr cr]) ∧ Cur w' g (M + 1000000) ∧ TchF [g] w w'
/-- Behind the switch: the sheet in its box, whatever was stored. -/
structure ShE (w1 : World) (g M : Nat) (w : World) (b : Nat) (Ai : Option Addr) (ni ci : Nat) (Av : Option Addr) (nv cv : Nat) (Ar : Option Addr) (nr cr : Nat) : Prop where
  k : TchF [g] w1 w
  cu : Cur w g M
  bx : Blk w b #[.slice Ai ni ci, .slice Av nv cv, .slice Ar nr cr] 28
  hb : w1.heap.size ≤ b
  rd : ∀ lo, lo ≤ w1.heap.size → ShR lo w (.agg #[.slice Ai ni ci, .slice Av nv cv, .slice Ar nr cr])
theorem ShU.toE {w1 w : World} {g M M' b n ci nv cv nr cr : Nat} {Ai Av Ar : Option Addr} {xs : List ItD} {vs : List (List (List Int))} {rs : List RvD} {f1 f2 f3 : List Nat} (h : ShU w1 g M w b n Ai ci xs f1 Av nv cv vs f2 Ar nr cr rs f3) (hm : M ≤ M') (hw : kSm.ok ((xs, vs, rs) : ShD)) : ShE w1 g M' w b Ai n ci Av nv cv Ar nr cr :=
  ⟨h.k, h.cu.more hm, h.bx, h.hb, fun lo hl => h.shR hl hw⟩
theorem ShU.cutE {w1 w : World} {g M M' b n ci nv cv nr cr q : Nat} {Ai Av Ar : Option Addr} {xs : List ItD} {vs : List (List (List Int))} {rs : List RvD} {f1 f2 f3 : List Nat} (h : ShU w1 g M w b n Ai ci xs f1 Av nv cv vs f2 Ar nr cr rs f3) (hm : M ≤ M') (hq : q ≤ nv) (hw : kSm.ok ((xs, vs.take q, rs) : ShD)) : ShE w1 g M' (w.setCell ⟨b, 1, none⟩ (.slice Av q cv)) b Ai n ci Av q cv Ar nr cr := by
  have t := TchF.put w ⟨b, 1, none⟩ (.slice Av q cv) (fp := [b]) (by simp)
  have hb := h.hb; have hg := h.gl
  exact ⟨h.k.step t (fun i hi => .inr (by simp at hi; omega)), (h.cu.more hm).tchF t (by simp; omega), h.bx.set 1 _, hb, fun lo hl => h.cut hl hq hw⟩
set_option maxRecDepth 100000 in
set_option maxHeartbeats 60000000 in
theorem cu.sheet_m (w : World) (g M : Nat) (h : Cur w g M) (hM : M ≤ 4611686018300000000) :
    Calls Try.prog 36 #[.pointer (some ⟨g, 0, none⟩)] w fun e w' => SHPost w g M e w' := by
  have hg := h.lt
  have D0 := hide ((DF.start (DS.init (L := 64) h)).ext (Ext.alloc w (.cells #[.slice none 0 0, .slice none 0 0, .slice none 0 0] 28)))
  have B0 := hide (Bx.new (DS.init (L := 64) h) #[.slice none 0 0, .slice none 0 0, .slice none 0 0] 28)
  clear h
  obtain ⟨z0, hz0⟩ : ∃ z, Hid (w.heap.size = z) := ⟨_, rfl⟩
  have z0w : w.heap.size ≤ z0 := by have := hz0.out; omega
  have z0g : z0 ≠ g := by have := hz0.out; omega
  have z0gt : g < z0 := by have := hz0.out; omega
  rw [hz0.out] at B0
  go_enter Try.func36, Try.ntmps36
  go_wp2_with fail
  rw [hz0.out]
  refine (cu.pick_m _ g M 5 D0.out.ds.cu (by omega) (by unfold InR; omega)).mono ?_
  rintro e wa ⟨r, rfl, r0, r1, -, c1, k1⟩
  have D1 := hide (D0.out.curs k1 c1)
  have B1 := hide (B0.out.curs k1)
  have r2 := r1 (by omega)
  clear c1 k1 r1 D0 B0
  go_upto_block 0 with fail
  go_cut [3] (fun s3 wx => ∃ (T' : Typ) (A : Option Addr) (n c : Nat), s3 = .slice A n c ∧ n ≤ 4 ∧ DF w w g 64 (M + 1000) (fun _ => none) T' wx ∧ ST T' (ksIt 1) 50 A n c ∧ Bx g T' wx z0 #[.slice none 0 0, .slice none 0 0, .slice none 0 0] 28)
  case first =>
    skip
    go_wp2_with fail
    go_loopw [3, 4] (fun s3 s4 wr => ∃ (k : Int) (T' : Typ) (A : Option Addr) (n c : Nat), s4 = .int .i64 k ∧ s3 = .slice A n c ∧ 0 ≤ k ∧ k + n ≤ 4 ∧ DF w w g 64 (M + 2 + 40 * n) (fun _ => none) T' wr ∧ ST T' (ksIt 1) 50 A n c ∧ Bx g T' wr z0 #[.slice none 0 0, .slice none 0 0, .slice none 0 0] 28) (fun s3 s4 _ => (intOf s4).toNat)
    case atStart => exact ⟨r, _, none, 0, 0, by go_num, rfl, r0, by omega, D1.out, ST.none_, B1.out⟩
    case round =>
      clear D1 B1 r0 r2
      obtain ⟨k, T1, A, n, c, rfl, rfl, hk0, hk1, df, st, bz⟩ := hrel
      have D := hide df
      have L := hide st
      have BZ := hide bz
      clear df st bz
      by_cases hlt : 0 < k
      · go_wp2_with fail
        refine (cu.called_lit (cs := #[.string (bs [51, 65]), .string (bs [50, 84]), .string (bs [52, 83]), .string (bs [83, 84])]) D.out.ds rfl (by omega) (by rfl) (by omega) (by omega) (by simp [IsStr]; first | done | exact ⟨⟨_, rfl, by decide⟩, ⟨_, rfl, by decide⟩, ⟨_, rfl, by decide⟩, ⟨_, rfl, by decide⟩⟩)).mono ?_
        rintro e wb ⟨T2, A1, n1, c1, A2, c2, q, rfl, m1, m2, f2, t1, t2⟩
        have D2 := hide (D.out.call f2)
        have L2 := hide (L.out.mono f2.sp.le)
        have BZ2 := hide (BZ.out.stp f2.sp)
        have S1 := hide t1
        have S2 := hide t2
        clear f2 t1 t2 D L BZ
        go_wp2_with fail
        refine (cu.cleanT D2.out.ds S1.out S2.out q m1).mono ?_
        rintro e wc ⟨T3, B1, k1, e1, B2, k2, e2, q', rfl, p1, p2, d3, s3, t1, t2⟩
        have D3 := hide (D2.out.stp s3 d3)
        have L3 := hide (L2.out.mono s3.le)
        have BZ3 := hide (BZ2.out.stp s3)
        have E3 := hide (it3 (q := q') t1 t2 p1 p2)
        clear d3 s3 t1 t2 D2 L2 BZ2 S1 S2
        go_wp2_with (at_builtin; refine wpList_append_A (ks := ksIt 1) (by rfl) (.tmp 21) (.tmp 26) (by rfl) elemN_item (by rfl) (by rfl) rfl D3.out.ds.ts D3.out.ds.size L3.out (by decide) E3.out (by omega) (by decide) (by omega) ?_; intro A5 c5 w8 T5 ap; have D4 := hide (D3.out.ext (Ext.alloc wc (.cells #[.slice B1 k1 e1, .slice B2 k2 e2, .bool q'] 50))); have S7 := hide (D4.out.ds.app ap); have D8 := hide (D4.out.stp S7.out.2.1 S7.out.1); have BZ8 := hide ((BZ3.out.ext (Ext.alloc wc (.cells #[.slice B1 k1 e1, .slice B2 k2 e2, .bool q'] 50))).stp S7.out.2.1); clear ap)
        go_roundw
        case rel => exact ⟨k - 1, T5, A5, n + 1, c5, by go_num, rfl, by omega, by omega, D8.out.more (by omega), S7.out.2.2, BZ8.out⟩
        case measure => simp [intOf]; omega
      · obtain rfl : k = 0 := by omega
        go_wp2
        go_meet
        exact ⟨T1, A, n, c, rfl, by omega, D.out.more (by omega), L.out, BZ.out⟩
  case rest =>
    obtain ⟨T, A, n, c, rfl, hn4, df, st, bz⟩ := hcut
    obtain ⟨w1, rfl⟩ : ∃ wq : World, wq = wc := ⟨_, rfl⟩
    obtain ⟨xs, hlr, hxn, hp, hwt, lc⟩ := lc_of df.ds st
    obtain ⟨ns, hns⟩ : ∃ ns, Hid (xs.map (fun x => x.1.length) = ns) := ⟨_, rfl⟩
    rw [hns.out] at lc
    have LCH := hide lc
    have XN := hide hxn
    have XP := hide hp
    have ZB := hide bz.blk
    have K1 := hide df.ds.tch
    have CU1 := hide df.ds.cu
    have CN := hide (s.caNew_w w1 A c w1.heap.size xs hlr (Nat.le_refl _) ⟨by omega, hwt, fun x hx => (hp x hx).1.2.1⟩)
    rw [hxn] at CN
    have zl1 := bz.blk.lt
    have sz1 := df.ds.tch.size
    have lnc := lc.nc; have lcm := lc.cm
    clear df st bz D1 B1 hlr hp hwt lc hxn r0 r2
    go_wp2_with fail
    refine CN.out.mono ?_
    rintro e w2 ⟨A3, c3, A5, c5, f, rfl, ho, hf, x2⟩
    obtain ⟨f1, f2, f3, hsu⟩ := ShU.start CU1.out x2 ho hf XN.out (by simp)
    have SH0 : Hid (Shp ns (List.replicate 3 (votesN xs))) := Shp.new hns.out.symm
    clear ho hf CN x2
    obtain ⟨w3, hw3⟩ : ∃ w3, Hid (w3 = w2.alloc (.cells #[.slice A3 n c3, .slice A5 3 c5, .slice none 0 0] 28)) := ⟨_, rfl⟩
    obtain ⟨b, hb⟩ : ∃ b, Hid (b = w2.heap.size) := ⟨_, rfl⟩
    rw [← hw3.out, ← hb.out] at hsu
    have SU0 := hide hsu
    clear hsu
    go_upto_region 7 with fail
    rw [← hw3.out, ← hb.out]
    clear hw3 hb
    have gl := SU0.out.gl
    have hb1 := SU0.out.hb
    have n64 : n ≤ 64 := by omega
    have NS64 : Hid (∀ i, i < n → 1 ≤ ns.getD i 0 ∧ ns.getD i 0 ≤ 64) := fun i hi => by obtain ⟨_, _, _, _, _, _, _, _, _, _, _, _, _, h⟩ := LCH.out.it i hi; exact h
    have NSL := hide LCH.out.ln
    go_wp2_with fail
    refine (cu.one_m _ g _ 3 SU0.out.cu (by omega) (by unfold InR; omega)).mono ?_
    rintro e w4 ⟨few, rfl, c7, k7⟩
    have SU1 := hide (SU0.out.curs k7 c7)
    clear c7 k7 SU0
    go_upto_block 2 with fail
    go_cut [] (fun wx => ∃ vs, Shp ns vs ∧ ShU w1 g (M + 300000) wx b n A3 c3 xs f1 A5 3 c5 vs f2 none 0 0 [] f3)
    case first =>
      go_wp2_with fail
      go_loopw [34] (fun s34 wr => ∃ (i : Nat) (vs : List (List (List Int))), s34 = .int .i64 i ∧ i ≤ n ∧ Shp ns vs ∧ ShU w1 g (M + 1002 + 3000 * i) wr b n A3 c3 xs f1 A5 3 c5 vs f2 none 0 0 [] f3) (fun s34 _ => n - (intOf s34).toNat)
      case atStart => exact ⟨0, _, by go_num, Nat.zero_le _, SH0.out, SU1.out⟩
      case round =>
        clear SH0 SU1
        obtain ⟨i, vs, rfl, hi, sh, su⟩ := hrel
        have SH := hide sh
        have SU := hide su
        clear sh su
        by_cases hlt : i < n
        · obtain ⟨xl, B, C, B2, m2, C2, ql, rfl, hxl, hxg, i0, i1, i2⟩ := LCH.out.at_ SU.out.k hlt
          have ni1 := (NS64.out i hlt).1
          have ni2 := (NS64.out i hlt).2
          obtain ⟨m, hm⟩ : ∃ m, Hid (ns.getD i 0 = m) := ⟨_, rfl⟩
          rw [hm.out] at i0 ni1 ni2
          have iz : (i : Int) < (n : Int) := by omega
          obtain ⟨wi, hwi⟩ : ∃ wi, Hid (wi = wr.alloc (.cells #[.slice B m C, .slice B2 m2 C2, .bool ql] 50)) := ⟨_, rfl⟩
          obtain ⟨bi, hbi⟩ : ∃ bi, Hid (bi = wr.heap.size) := ⟨_, rfl⟩
          have xi : Ext wr wi := by rw [hwi.out]; exact Ext.alloc _ _
          have BI : Hid (Blk wi bi #[.slice B m C, .slice B2 m2 C2, .bool ql] 50) := by rw [hwi.out, hbi.out]; exact Blk.new rfl _ _
          have SV := hide (SU.out.ext xi)
          clear xi SU
          have lr := hxl
          go_upto_region 11 with fail
          rw [← hwi.out, ← hbi.out]
          clear hwi hbi i0 i1 i2
          have qi := BI.out.cell
          have li := BI.out.lt
          go_wp2
          clear qi li BI
          go_loopw [42] (fun s42 wr => ∃ (k : Nat) (vs : List (List (List Int))), s42 = .int .i64 k ∧ k ≤ m ∧ Shp ns vs ∧ ShU w1 g (M + 1002 + 3000 * i + 40 * k) wr b n A3 c3 xs f1 A5 3 c5 vs f2 none 0 0 [] f3) (fun s42 _ => m - (intOf s42).toNat)
          case atStart => exact ⟨0, vs, by go_num, Nat.zero_le _, SH.out, SV.out⟩
          case round =>
            clear SH SV
            obtain ⟨k, vs, rfl, hk, sh, su⟩ := hrel
            have SH := hide sh
            have SU := hide su
            clear sh su
            by_cases hkt : k < m
            · obtain ⟨wl, hwl⟩ : ∃ wl, Hid (wl = wr.alloc (.cells #[.int .i64 0, .int .i64 0, .int .i64 1, .int .i64 2, .int .i64 3] 3)) := ⟨_, rfl⟩
              obtain ⟨bl, hbl⟩ : ∃ bl, Hid (bl = wr.heap.size) := ⟨_, rfl⟩
              have xi : Ext wr wl := by rw [hwl.out]; exact Ext.alloc _ _
              have BL : Hid (Blk wl bl #[.int .i64 0, .int .i64 0, .int .i64 1, .int .i64 2, .int .i64 3] 3) := by rw [hwl.out, hbl.out]; exact Blk.new rfl _ _
              have blg : bl ≠ g := by have := SU.out.k.size; rw [hbl.out]; omega
              have SV := hide (SU.out.ext xi)
              clear xi SU
              go_wp2_with fail
              rw [← hwl.out, ← hbl.out]
              clear hwl hbl
              refine (cu.among_m wl g _ bl _ [0, 0, 1, 2, 3] SV.out.cu (by omega) BL.out blg (by decide) (by decide)).mono ?_
              rintro e wm ⟨mk, rfl, -, c7, k7⟩
              have SU := hide (SV.out.curs k7 c7)
              clear c7 k7 SV BL blg
              go_wp2
              go_loopw [11] (fun s11 wr => ∃ (cl : Nat) (vs : List (List (List Int))), s11 = .int .i64 cl ∧ cl ≤ 3 ∧ Shp ns vs ∧ ShU w1 g (M + 1002 + 3000 * i + 40 * k + 2 + 8 * cl) wr b n A3 c3 xs f1 A5 3 c5 vs f2 none 0 0 [] f3) (fun s11 _ => 3 - (intOf s11).toNat)
              case atStart => exact ⟨0, vs, by go_num, Nat.zero_le _, SH.out, SU.out⟩
              case round =>
                clear SH SU
                obtain ⟨cl, vs, rfl, hcl, sh, su⟩ := hrel
                have SH := hide sh
                have SU := hide su
                clear sh su
                by_cases hct : cl < 3
                · skip
                  have cz : (cl : Int) < 3 := by omega
                  have kz : (k : Int) < (m : Int) := by omega
                  obtain ⟨v, x, hv, hx, hvl, hxl2⟩ := SH.out.spot hct (show i < ns.length by rw [NSL.out]; exact hlt)
                  rw [NSL.out] at hvl
                  rw [hm.out] at hxl2
                  have HV := hide hv; have HX := hide hx
                  have hkx : k < x.length := by omega
                  obtain ⟨gv, v1, d1, v2, d2, sp⟩ := SU.out.spv hv hx hkx hvl hxl2
                  have SP := hide sp
                  have av := sp.av
                  have sn1 := sp.n1; have sn2 := sp.n2; have sm1 := sp.m1; have sm2 := sp.m2
                  have slv := sp.l0; have slv1 := sp.l1; have slv2 := sp.l2
                  clear sp hv hx
                  subst av
                  have nb2 : v2 ≠ b := fun e => (SU.out.d2 v2 SP.out.mem).2.1 e
                  have NS := hide (fun (z : Int) => SH.out.set cl i k z HV.out HX.out)
                  cases few
                  · go_wp2_with fail
                    refine (cu.one_m _ g _ 4 SU.out.cu (by omega) (by unfold InR; omega)).mono ?_
                    rintro e wv ⟨q, rfl, c7, k7⟩
                    have SP' := hide (SP.out.curs gl k7)
                    have SU' := hide (SU.out.curs k7 c7)
                    clear c7 k7 SP SU
                    have SP := SP'; have SU := SU'
                    clear SP' SU'
                    have slv := SP.out.l0; have slv1 := SP.out.l1; have slv2 := SP.out.l2
                    have q5 := SU.out.bx.cell; have p5 := SU.out.bx.free; have l5 := SU.out.bx.lt
                    have h0 := SP.out.h0; have h1 := SP.out.h1; have fr := SP.out.fr; obtain ⟨zu, h2⟩ := SP.out.h2
                    cases q
                    · go_wp2
                      have SU9 := hide (SU.out.vote SP.out HV.out HX.out hkx mk)
                      go_roundw
                      case rel => exact ⟨cl + 1, _, by go_num, by omega, NS.out mk, SU9.out.more (by omega)⟩
                      case measure => simp [intOf]; omega
                    · go_wp2_with fail
                      go_region_law (go_simp; go_at_call 38; refine (cu.pick_m _ g _ _ (SU.out.cu.ext (by first | with_reducible exact Ext.refl _ | with_reducible exact Ext.drew _)) (by omega) (by first | exact inr_wrap _ | (unfold InR; omega))).mono ?_; rintro e w7 ⟨zi, rfl, zi0, zi1, zi2, c7, k7⟩; have SU := hide (SU.out.step (by first | with_reducible exact Ext.refl _ | with_reducible exact Ext.drew _) k7 c7); have SP := hide ((SP.out.ext (by first | with_reducible exact Ext.refl _ | with_reducible exact Ext.drew _)).curs gl k7); have slv := SP.out.l0; have slv1 := SP.out.l1; have slv2 := SP.out.l2; have q5 := SU.out.bx.cell; have p5 := SU.out.bx.free; have l5 := SU.out.bx.lt; have h0 := SP.out.h0; have h1 := SP.out.h1; have fr := SP.out.fr; obtain ⟨zu, h2⟩ := SP.out.h2; clear c7 k7 zi1 zi2)
                      all_goals
                        as_aux_lemma =>
                          go_wp2
                          have SU9 := hide (SU.out.vote SP.out HV.out HX.out hkx zi)
                          go_roundw
                          case rel => exact ⟨cl + 1, _, by go_num, by omega, NS.out zi, SU9.out.more (by omega)⟩
                          case measure => simp [intOf]; omega
                  · go_wp2_with fail
                    refine (cu.one_m _ g _ 3 SU.out.cu (by omega) (by unfold InR; omega)).mono ?_
                    rintro e wv ⟨q0, rfl, c7, k7⟩
                    have SP' := hide (SP.out.curs gl k7)
                    have SU' := hide (SU.out.curs k7 c7)
                    clear c7 k7 SP SU
                    have SP := SP'; have SU := SU'
                    clear SP' SU'
                    cases q0
                    · go_wp2_with fail
                      refine (cu.one_m _ g _ 4 SU.out.cu (by omega) (by unfold InR; omega)).mono ?_
                      rintro e wu ⟨q, rfl, c7, k7⟩
                      have SP' := hide (SP.out.curs gl k7)
                      have SU' := hide (SU.out.curs k7 c7)
                      clear c7 k7 SP SU
                      have SP := SP'; have SU := SU'
                      clear SP' SU'
                      have slv := SP.out.l0; have slv1 := SP.out.l1; have slv2 := SP.out.l2
                      have q5 := SU.out.bx.cell; have p5 := SU.out.bx.free; have l5 := SU.out.bx.lt
                      have h0 := SP.out.h0; have h1 := SP.out.h1; have fr := SP.out.fr; obtain ⟨zu, h2⟩ := SP.out.h2
                      cases q
                      · go_wp2
                        have SU9 := hide (SU.out.vote SP.out HV.out HX.out hkx mk)
                        go_roundw
                        case rel => exact ⟨cl + 1, _, by go_num, by omega, NS.out mk, SU9.out.more (by omega)⟩
                        case measure => simp [intOf]; omega
                      · go_wp2_with fail
                        go_region_law (go_simp; go_at_call 38; refine (cu.pick_m _ g _ _ (SU.out.cu.ext (by first | with_reducible exact Ext.refl _ | with_reducible exact Ext.drew _)) (by omega) (by first | exact inr_wrap _ | (unfold InR; omega))).mono ?_; rintro e w7 ⟨zi, rfl, zi0, zi1, zi2, c7, k7⟩; have SU := hide (SU.out.step (by first | with_reducible exact Ext.refl _ | with_reducible exact Ext.drew _) k7 c7); have SP := hide ((SP.out.ext (by first | with_reducible exact Ext.refl _ | with_reducible exact Ext.drew _)).curs gl k7); have slv := SP.out.l0; have slv1 := SP.out.l1; have slv2 := SP.out.l2; have q5 := SU.out.bx.cell; have p5 := SU.out.bx.free; have l5 := SU.out.bx.lt; have h0 := SP.out.h0; have h1 := SP.out.h1; have fr := SP.out.fr; obtain ⟨zu, h2⟩ := SP.out.h2; clear c7 k7 zi1 zi2)
                        all_goals
                          as_aux_lemma =>
                            go_wp2
                            have SU9 := hide (SU.out.vote SP.out HV.out HX.out hkx zi)
                            go_roundw
                            case rel => exact ⟨cl + 1, _, by go_num, by omega, NS.out zi, SU9.out.more (by omega)⟩
                            case measure => simp [intOf]; omega
                    · have slv := SP.out.l0; have slv1 := SP.out.l1; have slv2 := SP.out.l2
                      have q5 := SU.out.bx.cell; have p5 := SU.out.bx.free; have l5 := SU.out.bx.lt
                      have h0 := SP.out.h0; have h1 := SP.out.h1; have fr := SP.out.fr; obtain ⟨zu, h2⟩ := SP.out.h2
                      go_wp2
                      have SU9 := hide (SU.out.vote SP.out HV.out HX.out hkx (-1))
                      go_roundw
                      case rel => exact ⟨cl + 1, _, by go_num, by omega, NS.out (-1), SU9.out.more (by omega)⟩
                      case measure => simp [intOf]; omega
                · go_wp2
                  go_roundw
                  case rel => exact ⟨k + 1, vs, by go_num, by omega, SH.out, SU.out.more (by omega)⟩
                  case measure => simp [intOf]; omega
            · obtain rfl : k = m := by omega
              go_wp2
              go_roundw
              case rel => exact ⟨i + 1, vs, by go_num, by omega, SH.out, SU.out.more (by omega)⟩
              case measure => simp [intOf]; omega
        · go_wp2
          go_meet
          exact ⟨vs, SH.out, SU.out.more (by omega)⟩
    case rest =>
      obtain ⟨vs, sh, su⟩ := hcut
      clear SU1 SH0
      have SH := hide sh
      have SU := hide su
      clear sh su
      obtain ⟨w5, rfl⟩ : ∃ wq : World, wq = wc := ⟨_, rfl⟩
      go_wp2_with fail
      refine (cu.pick_m _ g _ _ SU.out.cu (by omega) (by unfold InR; omega)).mono ?_
      rintro e w6 ⟨y1, rfl, y10, y11, -, c7, k7⟩
      have y12 := y11 (by omega)
      have SV := hide (SU.out.curs k7 c7)
      clear c7 k7 y11 SU
      go_wp2_with fail
      refine (cu.one_m _ g _ _ SV.out.cu (by omega) (by unfold InR; omega)).mono ?_
      rintro e w7 ⟨q, rfl, c7, k7⟩
      have SU := hide (SV.out.curs k7 c7)
      clear c7 k7 SV
      go_upto_if 99 with fail
      go_cut [12] (fun s12 wx => ∃ y : Int, s12 = .int .i64 y ∧ 0 ≤ y ∧ y ≤ 30 ∧ ShU w1 g (M + 300010) wx b n A3 c3 xs f1 A5 3 c5 vs f2 none 0 0 [] f3)
      case first =>
        cases q
        · go_wp2
          go_meet
          exact ⟨y1, rfl, y10, by omega, SU.out.more (by omega)⟩
        · go_wp2_with fail
          refine (cu.pick_m _ g _ _ SU.out.cu (by omega) (by unfold InR; omega)).mono ?_
          rintro e w8 ⟨y2, rfl, y20, y21, -, c7, k7⟩
          have y22 := y21 (by omega)
          have SV := hide (SU.out.curs k7 c7)
          clear c7 k7 y21 SU
          go_wp2
          go_meet
          exact ⟨19 + y2, rfl, by omega, by omega, SV.out.more (by omega)⟩
      case rest =>
        obtain ⟨y, rfl, hy0, hy1, su⟩ := hcut
        clear SU
        have SU := hide su
        clear su
        obtain ⟨w6, rfl⟩ : ∃ wq : World, wq = wc := ⟨_, rfl⟩
        go_upto_block 9 with fail
        go_cut [] (fun wx => ∃ Ar nr cr rs f3, nr ≤ 30 ∧ ShU w1 g (M + 300410) wx b n A3 c3 xs f1 A5 3 c5 vs f2 Ar nr cr rs f3)
        case first =>
          go_wp2_with fail
          go_loopw [12] (fun s12 wr => ∃ (k : Int) (Ar : Option Addr) (nr cr : Nat) (rs : List RvD) (f3 : List Nat), s12 = .int .i64 k ∧ 0 ≤ k ∧ k + nr ≤ 30 ∧ ShU w1 g (M + 300010 + 10 * nr) wr b n A3 c3 xs f1 A5 3 c5 vs f2 Ar nr cr rs f3) (fun s12 _ => (intOf s12).toNat)
          case atStart => exact ⟨y, none, 0, 0, [], f3, rfl, hy0, by omega, SU.out⟩
          case round =>
            clear SU
            obtain ⟨k, Ar, nr, cr, rs, f3, rfl, hk0, hk1, su⟩ := hrel
            have SU := hide su
            clear su
            by_cases hlt : 0 < k
            · by_cases hn0 : n = 0
              · subst hn0
                go_wp2
                go_meet
                exact ⟨Ar, nr, cr, rs, f3, by omega, SU.out.more (by omega)⟩
              · have hnp : (0 : Int) < (n : Int) := by omega
                go_wp2_with fail
                refine (cu.pick_m _ g _ n SU.out.cu (by omega) (by unfold InR; omega)).mono ?_
                rintro e w7 ⟨ri, rfl, ri0, ri1, -, c7, k7⟩
                obtain ⟨i, rfl⟩ : ∃ i : Nat, ri = i := ⟨ri.toNat, by omega⟩
                have iz : (i : Int) < n := ri1 (by omega)
                have hlti : i < n := by omega
                have SV := hide (SU.out.curs k7 c7)
                clear c7 k7 ri1 SU
                have SU := SV
                clear SV
                skip
                obtain ⟨xl, B, C, B2, m2, C2, ql, hA, hxl, hxg, i0, -, -, ni1, ni2⟩ := LCH.out.it i hlti
                subst hA
                obtain ⟨m, hm⟩ : ∃ m, Hid (ns.getD i 0 = m) := ⟨_, rfl⟩
                rw [hm.out] at i0 ni1 ni2
                have I0 := hide i0
                clear i0
                have i0 := (SU.out.k.cell (p := ⟨xl, i * 3, none⟩) hxl (by simpa using hxg)).trans I0.out
                have lx := Nat.lt_of_lt_of_le hxl SU.out.k.size
                have nxb : xl ≠ b := by omega
                have q5 := SU.out.bx.cell; have p5 := SU.out.bx.free; have l5 := SU.out.bx.lt
                have mz : (m : Int) ≤ 64 := by omega
                go_wp2_with fail
                go_region_law (first
                  | (refine step_append_RV (by rfl) (.tmp 117) (.tmp 130) (by rfl) (by rfl) (by rfl) rfl SU.out.or_ SU.out.lr (by omega) ?_; intro A10 c10 w10 fp10 hap; have HR := hide ((SU.out.ext (Ext.alloc _ _)).rev hap); have q5 := HR.out.1.cell; have p5 := HR.out.1.free; have l5 := HR.out.1.lt; clear hap)
                  | (go_simp; go_at_call 38; refine (cu.pick_m _ g _ _ (SU.out.cu.ext (by first | with_reducible exact Ext.refl _ | with_reducible exact Ext.drew _)) (by omega) (by unfold InR; omega)).mono ?_; rintro e w8 ⟨zi, rfl, zi0, zi1, zi2, c7, k7⟩; have SU := hide (SU.out.step (by first | with_reducible exact Ext.refl _ | with_reducible exact Ext.drew _) k7 c7); have i0 := (SU.out.k.cell (p := ⟨xl, i * 3, none⟩) hxl (by simpa using hxg)).trans I0.out; have lx := Nat.lt_of_lt_of_le hxl SU.out.k.size; have q5 := SU.out.bx.cell; have p5 := SU.out.bx.free; have l5 := SU.out.bx.lt; clear c7 k7 zi1 zi2))
                all_goals
                  as_aux_lemma =>
                    go_wp2
                    go_roundw
                    case rel => exact ⟨k - 1, A10, nr + 1, c10, _, fp10, by go_num, by omega, by omega, HR.out.2.more (by omega)⟩
                    case measure => simp [intOf]; omega
            · obtain rfl : k = 0 := by omega
              go_wp2
              go_meet
              exact ⟨Ar, nr, cr, rs, f3, by omega, SU.out.more (by omega)⟩
        case rest =>
          obtain ⟨Ar, nr, cr, rs, f3, hnr, su⟩ := hcut
          clear SU
          have SU := hide su
          clear su
          obtain ⟨w7, rfl⟩ : ∃ wq : World, wq = wc := ⟨_, rfl⟩
          have SM := hide (SH.out.small (by rw [NSL.out]; exact n64) (fun i => by
            rcases Nat.lt_or_ge i n with hi | hi
            · exact (NS64.out i hi).2
            · rw [List.getD_eq_getElem?_getD, List.getElem?_eq_none (by rw [NSL.out]; exact hi)]; exact Nat.zero_le _))
          have RL : Hid (rs.length ≤ 31) := by show _ ≤ _; have := SU.out.lr; omega
          have XL : Hid (xs.length ≤ 64) := by show _ ≤ _; have := XN.out; omega
          have PZ := hide (pIt_zero XP.out)
          go_upto_if 135 with fail
          go_cut [] (fun wx => ∃ Av nv cv Ar nr cr, ShE w1 g (M + 400000) wx b A3 n c3 Av nv cv Ar nr cr)
          case first =>
            by_cases hn0 : n = 0
            · subst hn0
              go_wp2
              go_meet
              exact ⟨_, _, _, _, _, _, SU.out.toE (by omega) (sh_ok XL.out PZ.out SM.out.1 SM.out.2 (by have := RL.out; omega))⟩
            have hnp : (0 : Int) < (n : Int) := by omega
            go_wp2_with fail
            refine (cu.pick_m _ g _ n SU.out.cu (by omega) (by unfold InR; omega)).mono ?_
            rintro e w8 ⟨ri, rfl, ri0, ri1, -, c7, k7⟩
            obtain ⟨i, rfl⟩ : ∃ i : Nat, ri = i := ⟨ri.toNat, by omega⟩
            have iz : (i : Int) < n := ri1 (by omega)
            have hlti : i < n := by omega
            have SV := hide (SU.out.curs k7 c7)
            clear c7 k7 ri1 SU
            go_wp2_with fail
            refine (cu.pick_m _ g _ _ SV.out.cu (by omega) (by unfold InR; omega)).mono ?_
            rintro e w9 ⟨sw, rfl, -, -, -, c7, k7⟩
            have SU := hide (SV.out.curs k7 c7)
            clear c7 k7 SV
            have lnl := hide (show i < ns.length by rw [NSL.out]; exact hlti)
            have OKS := hide (fun (ys : List ItD) (us : List (List (List Int))) (qs : List RvD) (h1 : ys.length ≤ 64) (h2 : ∀ x ∈ ys, pIt 0 64 x) (h3 : us.length ≤ 3 ∧ ∀ v ∈ us, v.length ≤ 64 ∧ ∀ x ∈ v, x.length ≤ 65) (h5 : qs.length ≤ 64) => sh_ok h1 h2 h3.1 h3.2 h5)
            by_cases s0 : sw = 0
            · subst s0
              as_aux_lemma =>
              obtain ⟨x, hx⟩ : ∃ x, Hid (xs[i]? = some x) := get_ex xs i (by rw [XN.out]; exact hlti)
              have hxp := XP.out x (List.mem_of_getElem? hx.out)
              obtain ⟨gi, a1, d1, sp⟩ := SU.out.spi hx.out (show 0 < x.2.1.length from hxp.2.1.1) rfl
              have SP := hide sp
              have ai := sp.ai
              have si0 := sp.m0; have si1 := sp.n2; have si2 := sp.m2
              have sl0 := sp.l0; have sl1 := sp.l1
              subst ai
              clear sp hxp
              obtain ⟨mm, hmm⟩ : ∃ mm, Hid (x.2.1.length = mm) := ⟨_, rfl⟩
              rw [hmm.out] at SP si0 si1
              have h1 := SP.out.h1; have fr := SP.out.fr; obtain ⟨zu, h2⟩ := SP.out.h2
              have cap1 := SU.out.oi.cap.1; have cap2 := SU.out.oi.cap.2
              rw [XN.out] at cap1
              have na := fun e : a1 = b => (SU.out.d1 a1 SP.out.mem).2.1 e
              have q5 := SU.out.bx.cell; have p5 := SU.out.bx.free; have l5 := SU.out.bx.lt
              have mz : (0 : Int) < (mm : Int) := by omega
              go_wp2_with fail
              go_region_law (go_simp; go_at_call 74; refine (cu.among_m _ g _ _ _ [-1, 1, 4] ((SU.out.cu.ext (Ext.alloc _ (.cells #[.int .i64 (-1), .int .i64 1, .int .i64 4] 3))).ext (by first | with_reducible exact Ext.refl _ | with_reducible exact Ext.drew _)) (by omega) (by first | exact Blk.new rfl _ _ | exact (Blk.new rfl _ _).ext (Ext.drew _)) (by have := SU.out.cu.lt; omega) (by decide) (by decide)).mono ?_; rintro e w10 ⟨zi, rfl, -, c7, k7⟩; have SU := hide (((SU.out.ext (Ext.alloc _ (.cells #[.int .i64 (-1), .int .i64 1, .int .i64 4] 3))).step (by first | with_reducible exact Ext.refl _ | with_reducible exact Ext.drew _) k7 c7)); have SP := hide (((SP.out.ext (Ext.alloc _ (.cells #[.int .i64 (-1), .int .i64 1, .int .i64 4] 3))).ext (by first | with_reducible exact Ext.refl _ | with_reducible exact Ext.drew _)).curs gl k7); have h1 := SP.out.h1; have fr := SP.out.fr; obtain ⟨zu, h2⟩ := SP.out.h2; have sl0 := SP.out.l0; have sl1 := SP.out.l1; have q5 := SU.out.bx.cell; have p5 := SU.out.bx.free; have l5 := SU.out.bx.lt; clear c7 k7)
              all_goals
                go_wp2
                go_meet
                exact ⟨_, _, _, _, _, _, (SU.out.mark SP.out hx.out zi).toE (by omega) (OKS.out _ _ _ (by rw [List.length_set]; exact XL.out) (pIt_mark XP.out i 0 zi hx.out) SM.out (by have := RL.out; omega))⟩
            by_cases s1 : sw = 1
            · subst s1
              as_aux_lemma =>
              obtain ⟨m, hm⟩ : ∃ m, Hid (ns.getD i 0 = m) := ⟨_, rfl⟩
              have mp : 0 < m := by rw [← hm.out]; exact (NS64.out i hlti).1
              have mz : (0 : Int) < (m : Int) := by omega
              obtain ⟨gv, v1, d1, v2, d2, av, rs3, all3⟩ := SU.out.all3 SH.out NSL.out hlti hm.out mp
              have A3 := hide all3
              have R3 := hide rs3
              have gvl : w1.heap.size ≤ gv ∧ gv < w9.heap.size := by obtain ⟨_, _, _, _, _, s⟩ := A3.out 0 (by omega); exact s.l0
              have v1l : ∀ cl, cl < 3 → w1.heap.size ≤ v1 cl ∧ v1 cl < w9.heap.size := fun cl hc => by obtain ⟨_, _, _, _, _, s⟩ := A3.out cl hc; exact s.l1
              have V1L := hide v1l
              clear all3 rs3 v1l
              have l5 := SU.out.bx.lt
              have gne : w9.heap.size ≠ g := by have := SU.out.cu.lt; omega
              have BX := hide SU.out.bx
              have bne : b ≠ g := by omega
              have gvne : gv ≠ g := by omega
              subst av
              have HS : Hid (∀ wq, TchF [g] w9 wq → wq.cell? ⟨b, 1, none⟩ = some (.slice (some ⟨gv, 0, none⟩) 3 c5) ∧ (∀ cl : Nat, cl < 3 → wq.cell? ⟨gv, cl, none⟩ = some (.slice (some ⟨v1 cl, 0, none⟩) n (d1 cl))) ∧ ∀ cl : Nat, cl < 3 → wq.cell? ⟨v1 cl, i, none⟩ = some (.slice (some ⟨v2 cl, 0, none⟩) m (d2 cl))) := fun wq k =>
                ⟨(BX.out.tchF k (by simpa using bne)).cell 1, fun cl hc => (k.cell (p := ⟨gv, cl, none⟩) gvl.2 (by simpa using gvne)).trans (R3.out.1 cl hc), fun cl hc => (k.cell (p := ⟨v1 cl, i, none⟩) (V1L.out cl hc).2 (by have := (V1L.out cl hc).1; simp; omega)).trans (R3.out.2 cl hc)⟩
              clear l5
              go_wp2_with fail
              go_region_held3 (fun wq => wq.cell? ⟨b, 1, none⟩ = some (.slice (some ⟨gv, 0, none⟩) 3 c5) ∧ (∀ cl : Nat, cl < 3 → wq.cell? ⟨gv, cl, none⟩ = some (.slice (some ⟨v1 cl, 0, none⟩) n (d1 cl))) ∧ ∀ cl : Nat, cl < 3 → wq.cell? ⟨v1 cl, i, none⟩ = some (.slice (some ⟨v2 cl, 0, none⟩) m (d2 cl)))
                (first
                  | exact HS.out _ (TchF.of_ext (by with_reducible exact Ext.drew _))
                  | exact HS.out _ (TchF.of_ext (by with_reducible exact (Ext.alloc _ _).trans (Ext.drew _)))
                  | exact HF.out
                  | exact HS.out _ KF.out
                  | exact HS.out _ KP.out
                  | exact HS.out _ KM.out
                  | exact HS.out _ (KP.out.stepX (Ext.alloc _ _)))
                (first
                  | (go_at_call 38; have hh := KM; refine (cu.pick_m _ g _ _ SUM.out.cu (by omega) (by unfold InR; omega)).mono ?_; rintro e wa ⟨ci, rfl, ci0, ci1, -, c7, k7⟩; obtain ⟨cl, rfl⟩ : ∃ cl : Nat, ci = cl := ⟨ci.toNat, by omega⟩; have cz : (cl : Int) < 3 := ci1 (by omega); have hcl : cl < 3 := (by omega); have KF := hide (KM.out.trans k7); have SUF := hide (SUM.out.curs k7 c7); clear c7 k7 ci1; obtain ⟨v, x, hv, hx, hk, sp⟩ := A3.out cl hcl; have HV := hide hv; have HX := hide hx; have HK := hide hk; have SP := hide (sp.curs gl KF.out); have SU9 := hide (SUF.out.vote SP.out HV.out HX.out HK.out zi); have HF := hide (And.intro (SU9.out.bx.cell 1) (RowsV.put ⟨(HS.out _ KF.out).2.1, (HS.out _ KF.out).2.2⟩ rfl SU9.out (SH.out.set cl i 0 zi HV.out HX.out) NSL.out hlti hm.out mp rfl)); have fr := SP.out.fr; obtain ⟨zu, h2⟩ := SP.out.h2; have sl2 := SP.out.l2; clear hv hx hk sp)
                  | (go_at_call 38; refine (cu.pick_m _ g _ _ (SU.out.cu.ext (Ext.drew w9)) (by omega) (by unfold InR; omega)).mono ?_; rintro e wa ⟨ci, rfl, ci0, ci1, -, c7, k7⟩; obtain ⟨cl, rfl⟩ : ∃ cl : Nat, ci = cl := ⟨ci.toNat, by omega⟩; have cz : (cl : Int) < 3 := ci1 (by omega); have hcl : cl < 3 := (by omega); have KP := hide ((TchF.of_ext (Ext.drew w9)).trans k7); have SUP := hide (SU.out.step (Ext.drew w9) k7 c7); clear c7 k7 ci1)
                  | (go_at_call 38; refine (cu.pick_m _ g _ _ (SU.out.cu.ext ((Ext.alloc w9 (.cells #[.int .i64 (-2), .int .i64 3, .int .i64 4] 3)).trans (Ext.drew _))) (by omega) (by unfold InR; omega)).mono ?_; rintro e wa ⟨ci, rfl, ci0, ci1, -, c7, k7⟩; obtain ⟨cl, rfl⟩ : ∃ cl : Nat, ci = cl := ⟨ci.toNat, by omega⟩; have cz : (cl : Int) < 3 := ci1 (by omega); have hcl : cl < 3 := (by omega); have BLP := hide (((Blk.new (w := w9) rfl #[.int .i64 (-2), .int .i64 3, .int .i64 4] 3).ext (Ext.drew _)).tchF k7 (by simpa using gne)); have KP := hide ((TchF.of_ext ((Ext.alloc w9 (.cells #[.int .i64 (-2), .int .i64 3, .int .i64 4] 3)).trans (Ext.drew _))).trans k7); have SUP := hide (SU.out.step ((Ext.alloc w9 (.cells #[.int .i64 (-2), .int .i64 3, .int .i64 4] 3)).trans (Ext.drew _)) k7 c7); clear c7 k7 ci1)
                  | (go_at_call 74; have hh := BLP; refine (cu.among_m _ g _ _ _ [-2, 3, 4] SUP.out.cu (by omega) BLP.out gne (by decide) (by decide)).mono ?_; rintro e wb ⟨zi, rfl, -, c7, k7⟩; have KF := hide (KP.out.trans k7); have SUF := hide (SUP.out.curs k7 c7); clear c7 k7; obtain ⟨v, x, hv, hx, hk, sp⟩ := A3.out cl hcl; have HV := hide hv; have HX := hide hx; have HK := hide hk; have SP := hide (sp.curs gl KF.out); have SU9 := hide (SUF.out.vote SP.out HV.out HX.out HK.out zi); have HF := hide (And.intro (SU9.out.bx.cell 1) (RowsV.put ⟨(HS.out _ KF.out).2.1, (HS.out _ KF.out).2.2⟩ rfl SU9.out (SH.out.set cl i 0 zi HV.out HX.out) NSL.out hlti hm.out mp rfl)); have fr := SP.out.fr; obtain ⟨zu, h2⟩ := SP.out.h2; have sl2 := SP.out.l2; clear hv hx hk sp)
                  | (go_at_call 74; have hh := KP; refine (cu.among_m _ g _ _ _ [-2, 3, 4] (SUP.out.cu.ext (Ext.alloc _ (.cells #[.int .i64 (-2), .int .i64 3, .int .i64 4] 3))) (by omega) (Blk.new rfl _ _) (by have := SUP.out.cu.lt; omega) (by decide) (by decide)).mono ?_; rintro e wb ⟨zi, rfl, -, c7, k7⟩; have KF := hide ((KP.out.stepX (Ext.alloc _ (.cells #[.int .i64 (-2), .int .i64 3, .int .i64 4] 3))).trans k7); have SUF := hide (SUP.out.step (Ext.alloc _ (.cells #[.int .i64 (-2), .int .i64 3, .int .i64 4] 3)) k7 c7); clear c7 k7; obtain ⟨v, x, hv, hx, hk, sp⟩ := A3.out cl hcl; have HV := hide hv; have HX := hide hx; have HK := hide hk; have SP := hide (sp.curs gl KF.out); have SU9 := hide (SUF.out.vote SP.out HV.out HX.out HK.out zi); have HF := hide (And.intro (SU9.out.bx.cell 1) (RowsV.put ⟨(HS.out _ KF.out).2.1, (HS.out _ KF.out).2.2⟩ rfl SU9.out (SH.out.set cl i 0 zi HV.out HX.out) NSL.out hlti hm.out mp rfl)); have fr := SP.out.fr; obtain ⟨zu, h2⟩ := SP.out.h2; have sl2 := SP.out.l2; clear hv hx hk sp)
                  | (go_at_call 74; refine (cu.among_m _ g _ _ _ [-2, 3, 4] (SU.out.cu.ext ((Ext.alloc w9 (.cells #[.int .i64 (-2), .int .i64 3, .int .i64 4] 3)).trans (Ext.drew _))) (by omega) ((Blk.new (w := w9) rfl #[.int .i64 (-2), .int .i64 3, .int .i64 4] 3).ext (Ext.drew _)) gne (by decide) (by decide)).mono ?_; rintro e wb ⟨zi, rfl, -, c7, k7⟩; have KM := hide ((TchF.of_ext ((Ext.alloc w9 (.cells #[.int .i64 (-2), .int .i64 3, .int .i64 4] 3)).trans (Ext.drew _))).trans k7); have SUM := hide (SU.out.step ((Ext.alloc w9 (.cells #[.int .i64 (-2), .int .i64 3, .int .i64 4] 3)).trans (Ext.drew _)) k7 c7); clear c7 k7))
              all_goals
                go_wp2
                go_meet
                exact ⟨_, _, _, _, _, _, SU9.out.toE (by omega) (OKS.out _ _ _ XL.out PZ.out ((SH.out.set cl i 0 zi HV.out HX.out).small (by rw [NSL.out]; exact n64) (fun i => by
                  rcases Nat.lt_or_ge i n with hi | hi
                  · exact (NS64.out i hi).2
                  · rw [List.getD_eq_getElem?_getD, List.getElem?_eq_none (by rw [NSL.out]; exact hi)]; exact Nat.zero_le _)) (by have := RL.out; omega))⟩
            by_cases s2 : sw = 2
            · subst s2
              all_goals
              have cap1 := SU.out.ov.cap.1; have cap2 := SU.out.ov.cap.2
              rw [SU.out.lv] at cap1
              have q5 := SU.out.bx.cell; have p5 := SU.out.bx.free; have l5 := SU.out.bx.lt
              have cz : (3 : Int) ≤ (c5 : Int) := by omega
              go_wp2
              go_meet
              exact ⟨_, _, _, _, _, _, SU.out.cutE (by omega) (by omega) (OKS.out _ _ _ XL.out PZ.out (small_take SM.out 2) (by have := RL.out; omega))⟩
            by_cases s3 : sw = 3
            · subst s3
              as_aux_lemma =>
              have q5 := SU.out.bx.cell; have p5 := SU.out.bx.free; have l5 := SU.out.bx.lt
              go_wp2_with fail
              go_region_law (first
                | (refine step_append_RV (by rfl) (.tmp 178) (.tmp 185) (by rfl) (by rfl) (by rfl) rfl SU.out.or_ SU.out.lr (by omega) ?_; intro A10 c10 w10 fp10 hap; have HR := hide ((SU.out.ext (Ext.alloc _ _)).rev hap); have q5 := HR.out.1.cell; have p5 := HR.out.1.free; have l5 := HR.out.1.lt; clear hap)
                | (go_simp; go_at_call 74; refine (cu.among_m _ g _ _ _ [-1, (n : Int)] ((SU.out.cu.ext (Ext.alloc _ (.cells #[.int .i64 (-1), .int .i64 (n : Int)] 3))).ext (by first | with_reducible exact Ext.refl _ | with_reducible exact Ext.drew _)) (by omega) (by first | exact Blk.new rfl _ _ | exact (Blk.new rfl _ _).ext (Ext.drew _)) (by have := SU.out.cu.lt; omega) (by simp) (by simp)).mono ?_; rintro e w10 ⟨zi, rfl, -, c7, k7⟩; have SU := hide (((SU.out.ext (Ext.alloc _ (.cells #[.int .i64 (-1), .int .i64 (n : Int)] 3))).step (by first | with_reducible exact Ext.refl _ | with_reducible exact Ext.drew _) k7 c7)); have q5 := SU.out.bx.cell; have p5 := SU.out.bx.free; have l5 := SU.out.bx.lt; clear c7 k7))
              all_goals
                go_wp2
                go_meet
                exact ⟨_, _, _, _, _, _, HR.out.2.toE (by omega) (OKS.out _ _ _ XL.out PZ.out SM.out (by rw [List.length_append]; have := RL.out; simp; omega))⟩
            by_cases s4 : sw = 4
            · subst s4
              all_goals
              obtain ⟨v, x, hv, hx, hvl, hxl2⟩ := SH.out.spot (show 0 < 3 by omega) lnl.out
              rw [NSL.out] at hvl
              have x64 : x.length ≤ 64 := by rw [hxl2]; exact (NS64.out i hlti).2
              obtain ⟨W, hW⟩ : ∃ W, Hid (W = (w9.alloc (.cells #[.int .i64 0] 3)).drew) := ⟨_, rfl⟩
              have XW : Ext w9 W := by rw [hW.out]; exact (Ext.alloc _ _).trans (Ext.drew _)
              have XA := hide (SU.out.ext (Ext.alloc w9 (.cells #[.int .i64 0] 3)))
              obtain ⟨gv, v1, d1, Ax, cx, hAv, k1, k2, k3, k4, k5, k6, k7, k8, k9, k10, k11, k12, -⟩ := SU.out.long hv hx
              obtain ⟨gv', v1', d1', Ax', cx', hAv', k1', -, -, k4', k5', -, -, -, -, -, -, -, hgr⟩ := (SU.out.ext XW).long hv hx
              have e0 := hAv.symm.trans hAv'
              simp only [Option.some.injEq, Addr.mk.injEq, and_true] at e0
              subst e0
              have e1 := ((Below.cell (p := ⟨gv, 0, none⟩) XW k6).trans k1).symm.trans k1'
              simp only [Option.some.injEq, Value.slice.injEq, Addr.mk.injEq, and_true, true_and] at e1
              obtain ⟨rfl, rfl⟩ := e1
              have e2 := ((Below.cell (p := ⟨v1, i, none⟩) XW k7).trans k4).symm.trans k4'
              simp only [Option.some.injEq, Value.slice.injEq, true_and] at e2
              obtain ⟨rfl, rfl⟩ := e2
              subst hAv
              rw [hvl] at k1 k1' k2 hgr
              obtain ⟨mx, hmx⟩ : ∃ m, Hid (x.length = m) := ⟨_, rfl⟩
              have oc1 := k5.capn; have oc2 := k5.capm
              rw [hmx.out] at k4 k4' k5' x64 oc1 hgr
              rw [hW.out] at k5' hgr
              have OX := hide k5'
              have GR := hide hgr
              have HV := hide hv
              have k1a : (w9.alloc (.cells #[.int .i64 0] 3)).cell? ⟨gv, 0, none⟩ = some (.slice (some ⟨v1, 0, none⟩) n d1) := by rw [cellA k6]; exact k1
              have k4a : (w9.alloc (.cells #[.int .i64 0] 3)).cell? ⟨v1, i, none⟩ = some (.slice Ax mx cx) := by rw [cellA k7]; exact k4
              have q5 := SU.out.bx.cell; have p5 := SU.out.bx.free; have l5 := SU.out.bx.lt
              have q5a := XA.out.bx.cell
              have b1 : (mx + 1) * 8 ≤ 140737488355328 := by omega
              have b2 : mx + 1 ≤ 4611686018427387904 := by omega
              have k10' := Ne.symm k10; have k11' := Ne.symm k11; have k12' := Ne.symm k12
              clear hgr k5 k5' k1' k4' hv hx hxl2 hAv' hW XW k9
              go_wp2_with fail
              have S9 : Hid (w9.cell? ⟨b, 1, none⟩ = some (.slice (some ⟨gv, 0, none⟩) 3 c5) ∧ w9.cell? ⟨gv, 0, none⟩ = some (.slice (some ⟨v1, 0, none⟩) n d1)) := ⟨q5 1, k1⟩
              have SA : Hid ((w9.alloc (.cells #[.int .i64 0] 3)).cell? ⟨b, 1, none⟩ = some (.slice (some ⟨gv, 0, none⟩) 3 c5) ∧ (w9.alloc (.cells #[.int .i64 0] 3)).cell? ⟨gv, 0, none⟩ = some (.slice (some ⟨v1, 0, none⟩) n d1)) := ⟨q5a 1, k1a⟩
              refine wp_region_noPanic ?_
              refine wp_region_held_drew (S := (fun w' => w'.cell? ⟨b, 1, none⟩ = some (.slice (some ⟨gv, 0, none⟩) 3 c5) ∧ w'.cell? ⟨gv, 0, none⟩ = some (.slice (some ⟨v1, 0, none⟩) n d1))) (by kernel_rfl) S9.out (fun hHeld => ?_)
              refine wpAnyH_take (i := 0) (v := ?_) rfl (by kernel_rfl) (by kernel_rfl) (by kernel_rfl) (fun _ _ _ h => h) (Or.inl ⟨by rfl, ?_⟩) (by assumption) ?_
              rotate_left
              · intro w hSw
                (try dsimp only at hSw)
                go_simp
                try (with_reducible rfl)
              try simp only [Act.put, List.setIfInBounds_toArray, List.set_cons_zero, List.set_cons_succ]
              refine wpAnyH_take (i := 1) (v := ?_) rfl (by kernel_rfl) (by kernel_rfl) (by kernel_rfl) (fun _ _ _ h => h) (Or.inl ⟨by rfl, ?_⟩) (by assumption) ?_
              rotate_left
              · intro w hSw
                (try dsimp only at hSw)
                go_simp
                try (with_reducible rfl)
              try simp only [Act.put, List.setIfInBounds_toArray, List.set_cons_zero, List.set_cons_succ]
              refine wpAnyH_take (i := 2) (v := ?_) rfl (by kernel_rfl) (by kernel_rfl) (by kernel_rfl) (fun _ _ _ h => h) (Or.inl ⟨by rfl, ?_⟩) (by assumption) ?_
              rotate_left
              · intro w hSw
                (try dsimp only at hSw)
                go_simp
                try (with_reducible rfl)
              try simp only [Act.put, List.setIfInBounds_toArray, List.set_cons_zero, List.set_cons_succ]
              refine wpAnyH_take (i := 3) (v := ?_) rfl (by kernel_rfl) (by kernel_rfl) (by kernel_rfl) (fun _ _ _ h => h) (Or.inl ⟨by rfl, ?_⟩) (by assumption) ?_
              rotate_left
              · intro w hSw
                (try dsimp only at hSw)
                go_simp
                try (with_reducible rfl)
              try simp only [Act.put, List.setIfInBounds_toArray, List.set_cons_zero, List.set_cons_succ]
              refine wpAnyH_take (i := 4) (v := ?_) rfl (by kernel_rfl) (by kernel_rfl) (by kernel_rfl) (fun _ _ _ h => h) (Or.inl ⟨by rfl, ?_⟩) (by assumption) ?_
              rotate_left
              · intro w hSw
                (try dsimp only at hSw)
                go_simp
                try (with_reducible rfl)
              try simp only [Act.put, List.setIfInBounds_toArray, List.set_cons_zero, List.set_cons_succ]
              refine wpAnyH_take (i := 5) (v := ?_) rfl (by kernel_rfl) (by kernel_rfl) (by kernel_rfl) (fun _ _ _ h => h) (Or.inl ⟨by rfl, ?_⟩) (by assumption) ?_
              rotate_left
              · intro w hSw
                (try dsimp only at hSw)
                go_simp
                try (with_reducible rfl)
              try simp only [Act.put, List.setIfInBounds_toArray, List.set_cons_zero, List.set_cons_succ]
              refine wpAnyH_take (i := 6) (v := ?_) rfl (by kernel_rfl) (by kernel_rfl) (by kernel_rfl) (fun _ _ _ h => h) (Or.inl ⟨by rfl, ?_⟩) (by assumption) ?_
              rotate_left
              · intro w hSw
                (try dsimp only at hSw)
                go_simp
                try (with_reducible rfl)
              try simp only [Act.put, List.setIfInBounds_toArray, List.set_cons_zero, List.set_cons_succ]
              refine wpAnyH_take (i := 7) (v := ?_) rfl (by kernel_rfl) (by kernel_rfl) (by kernel_rfl) (fun _ _ _ h => h) (Or.inl ⟨by rfl, ?_⟩) (by assumption) ?_
              rotate_left
              · intro w hSw
                (try dsimp only at hSw)
                go_simp
                try (with_reducible rfl)
              try simp only [Act.put, List.setIfInBounds_toArray, List.set_cons_zero, List.set_cons_succ]
              refine wpAnyH_take (i := 8) (v := ?_) rfl (by kernel_rfl) (by kernel_rfl) (by kernel_rfl) (fun _ _ _ h => h) (Or.inl ⟨by rfl, ?_⟩) (by assumption) ?_
              rotate_left
              · intro w hSw
                (try dsimp only at hSw)
                go_simp
                try (with_reducible rfl)
              try simp only [Act.put, List.setIfInBounds_toArray, List.set_cons_zero, List.set_cons_succ]
              refine wpAnyH_take (i := 9) (v := ?_) rfl (by kernel_rfl) (by kernel_rfl) (by kernel_rfl) (fun _ _ _ h => h) (Or.inl ⟨by rfl, ?_⟩) (by assumption) ?_
              rotate_left
              · intro w hSw
                (try dsimp only at hSw)
                go_simp
                try (with_reducible rfl)
              try simp only [Act.put, List.setIfInBounds_toArray, List.set_cons_zero, List.set_cons_succ]
              refine wpAnyH_take (i := 10) (v := ?_) rfl (by kernel_rfl) (by kernel_rfl) (by kernel_rfl) (fun _ _ _ h => h) (Or.inl ⟨by rfl, ?_⟩) (by assumption) ?_
              rotate_left
              · intro w hSw
                (try dsimp only at hSw)
                go_simp
                try (with_reducible rfl)
              try simp only [Act.put, List.setIfInBounds_toArray, List.set_cons_zero, List.set_cons_succ]
              refine wpAnyH_ready (rs := [11, 12]) (by kernel_rfl) (by simp) ?_
              refine AllReadyH.cons rfl (fun K hK => ?_) ?_
              · go_simp
                refine hK.out _ _ ?_ (fun hHeld => ?_)
                · exact S9.out
                clear hK K
                try simp only [Act.put, List.setIfInBounds_toArray, List.set_cons_zero, List.set_cons_succ]
                refine wpAnyH_ready (rs := [12]) (by kernel_rfl) (by simp) ?_
                refine AllReadyH.cons rfl (fun K hK => ?_) ?_
                · go_simp
                  refine hK.out _ _ ?_ (fun hHeld => ?_)
                  · exact SA.out
                  clear hK K
                  try simp only [Act.put, List.setIfInBounds_toArray, List.set_cons_zero, List.set_cons_succ]
                  refine wpAnyH_ready (rs := [13]) (by kernel_rfl) (by simp) ?_
                  refine AllReadyH.cons rfl (fun K hK => ?_) AllReadyH.nil
                  refine step_append_sl (by rfl) (.tmp 201) (.tmp 202) (by rfl) elem_int (by rfl) (by rfl) (lo := 0) OX.out (Sl.one w9 (.int .i64 0) 3).drew (one_int 0) b1 b2 (Nat.zero_le _) ?_
                  intro A2 c2 w10 hap
                  have h9 := GR.out w10 A2 _ c2 (x ++ [0]) (by simpa using hap)
                  have S10 := hide (And.intro (h9.2.2.2.1.cell 1) h9.1)
                  have c10 := h9.2.1; have f9 := h9.2.2.1; have l6 := h9.2.2.2.1.lt; have H9 := hide h9.2.2.2.2.2
                  clear h9 hap
                  refine hK.out _ _ ?_ (fun hHeld => ?_)
                  · exact S10.out
                  clear hK K
                  try simp only [Act.put, List.setIfInBounds_toArray, List.set_cons_zero, List.set_cons_succ]
                  refine wpAnyH_take (i := 14) (v := ?_) rfl (by kernel_rfl) (by kernel_rfl) (by kernel_rfl) (fun _ _ _ h => h) (Or.inl ⟨by rfl, ?_⟩) (by assumption) ?_
                  rotate_left
                  · intro w hSw
                    (try dsimp only at hSw)
                    go_simp
                    try (with_reducible rfl)
                  try simp only [Act.put, List.setIfInBounds_toArray, List.set_cons_zero, List.set_cons_succ]
                  refine wpAnyH_ready (rs := [15]) (by kernel_rfl) (by simp) ?_
                  refine AllReadyH.cons rfl (fun K hK => ?_) AllReadyH.nil
                  go_simp
                  refine hK.out _ _ ?_ (fun hHeld => ?_)
                  · exact ⟨(World.cell?_of_block (w := w10) (Below.heap_setCell _ _ _ _ k11')).trans S10.out.1, (World.cell?_of_block (w := w10) (Below.heap_setCell _ _ _ _ k12)).trans S10.out.2⟩
                  clear hK K
                  try simp only [Act.put, List.setIfInBounds_toArray, List.set_cons_zero, List.set_cons_succ]
                  refine wpAnyH_done (by kernel_rfl) ?_ _
                  refine NoPanic.normal ?_
                  as_aux_lemma =>
                    go_wp2
                    go_meet
                    obtain ⟨f4, su⟩ := H9.out
                    exact ⟨_, _, _, _, _, _, su.toE (by omega) (OKS.out _ _ _ XL.out PZ.out (small_set SM.out 0 i HV.out (by rw [List.length_append, hmx.out]; simp; omega)) (by have := RL.out; omega))⟩
                exact AllReadyH.nil
              refine AllReadyH.cons rfl (fun K hK => ?_) ?_
              · go_simp
                refine hK.out _ _ ?_ (fun hHeld => ?_)
                · exact SA.out
                clear hK K
                try simp only [Act.put, List.setIfInBounds_toArray, List.set_cons_zero, List.set_cons_succ]
                refine wpAnyH_ready (rs := [11]) (by kernel_rfl) (by simp) ?_
                refine AllReadyH.cons rfl (fun K hK => ?_) ?_
                · go_simp
                  refine hK.out _ _ ?_ (fun hHeld => ?_)
                  · exact SA.out
                  clear hK K
                  try simp only [Act.put, List.setIfInBounds_toArray, List.set_cons_zero, List.set_cons_succ]
                  refine wpAnyH_ready (rs := [13]) (by kernel_rfl) (by simp) ?_
                  refine AllReadyH.cons rfl (fun K hK => ?_) AllReadyH.nil
                  refine step_append_sl (by rfl) (.tmp 201) (.tmp 202) (by rfl) elem_int (by rfl) (by rfl) (lo := 0) OX.out (Sl.one w9 (.int .i64 0) 3).drew (one_int 0) b1 b2 (Nat.zero_le _) ?_
                  intro A2 c2 w10 hap
                  have h9 := GR.out w10 A2 _ c2 (x ++ [0]) (by simpa using hap)
                  have S10 := hide (And.intro (h9.2.2.2.1.cell 1) h9.1)
                  have c10 := h9.2.1; have f9 := h9.2.2.1; have l6 := h9.2.2.2.1.lt; have H9 := hide h9.2.2.2.2.2
                  clear h9 hap
                  refine hK.out _ _ ?_ (fun hHeld => ?_)
                  · exact S10.out
                  clear hK K
                  try simp only [Act.put, List.setIfInBounds_toArray, List.set_cons_zero, List.set_cons_succ]
                  refine wpAnyH_take (i := 14) (v := ?_) rfl (by kernel_rfl) (by kernel_rfl) (by kernel_rfl) (fun _ _ _ h => h) (Or.inl ⟨by rfl, ?_⟩) (by assumption) ?_
                  rotate_left
                  · intro w hSw
                    (try dsimp only at hSw)
                    go_simp
                    try (with_reducible rfl)
                  try simp only [Act.put, List.setIfInBounds_toArray, List.set_cons_zero, List.set_cons_succ]
                  refine wpAnyH_ready (rs := [15]) (by kernel_rfl) (by simp) ?_
                  refine AllReadyH.cons rfl (fun K hK => ?_) AllReadyH.nil
                  go_simp
                  refine hK.out _ _ ?_ (fun hHeld => ?_)
                  · exact ⟨(World.cell?_of_block (w := w10) (Below.heap_setCell _ _ _ _ k11')).trans S10.out.1, (World.cell?_of_block (w := w10) (Below.heap_setCell _ _ _ _ k12)).trans S10.out.2⟩
                  clear hK K
                  try simp only [Act.put, List.setIfInBounds_toArray, List.set_cons_zero, List.set_cons_succ]
                  refine wpAnyH_done (by kernel_rfl) ?_ _
                  refine NoPanic.normal ?_
                  as_aux_lemma =>
                    go_wp2
                    go_meet
                    obtain ⟨f4, su⟩ := H9.out
                    exact ⟨_, _, _, _, _, _, su.toE (by omega) (OKS.out _ _ _ XL.out PZ.out (small_set SM.out 0 i HV.out (by rw [List.length_append, hmx.out]; simp; omega)) (by have := RL.out; omega))⟩
                exact AllReadyH.nil
              exact AllReadyH.nil
            · all_goals
              go_wp2
              go_meet
              exact ⟨_, _, _, _, _, _, SU.out.toE (by omega) (sh_ok XL.out PZ.out SM.out.1 SM.out.2 (by have := RL.out; omega))⟩
          case rest =>
            obtain ⟨Av, nv, cv, Ar, nr, cr, se⟩ := hcut
            clear SU
            have SE := hide se
            clear se
            have q5 := SE.out.bx.cell
            have l5 := SE.out.bx.lt
            have ZC := hide (ZB.out.tchF SE.out.k (by simpa using z0g))
            have q0 := ZC.out.cell; have f0 := ZC.out.free; have l0 := ZC.out.lt
            have hb2 := SE.out.hb
            have nz : b ≠ z0 := by omega
            have nz2 := Ne.symm nz
            go_wp2
            refine bodyPost_ret (v := .agg #[.slice A3 n c3, .slice Av nv cv, .slice Ar nr cr]) (by simp [results, Try.results36, go_sem, q0]) rfl ?_
            have t3 := ((TchF.put wc ⟨z0, 0, none⟩ (.slice A3 n c3) (fp := [z0]) (by simp)).trans ((TchF.put _ ⟨z0, 1, none⟩ (.slice Av nv cv) (fp := [z0]) (by simp)).trans (TchF.put _ ⟨z0, 2, none⟩ (.slice Ar nr cr) (fp := [z0]) (by simp))))
            have kk := (K1.out.step SE.out.k (fun i hi => .inl (by simpa using hi))).step t3 (fun i hi => .inr (by simp at hi; omega))
            exact ⟨A3, n, c3, Av, nv, cv, Ar, nr, cr, rfl, ((SE.out.rd w1.heap.size (Nat.le_refl _)).since (((Since.put _ zl1 _).trans (Since.put _ zl1 _)).trans (Since.put _ zl1 _))).less sz1, (SE.out.cu.more (by omega)).tchF t3 (by simp; exact z0gt), kk⟩
end Go.Proofs.Ytofmfagdaiphaaa
