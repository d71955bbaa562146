/- A judge added. (NOT DONE YET if a 'sorry' stands below.) -/
import Derived.Test.YtnokilofcdbjhaaGreatDoorGM
namespace Go.Proofs.YtnokilofcdbjhaaGreatDoor
open Go.RowKit Go.Sort
set_option linter.unusedVariables false

set_option maxRecDepth 100000 in
set_option maxHeartbeats 4000000 in
theorem s.AddJudge_law (w : World) (v v1 v2 : Value) (d : MD) (gs cs : List Int) (h : kM.rd w v d) (hok : kM.ok d) (hg : kI.rd w v1 gs) (hgo : kI.ok gs) (hc : kI.rd w v2 cs) (hco : kI.ok cs) :
    Calls Tryz.prog 13 #[v, v1, v2] w fun e w' => ∃ v0, e = .returned (.tuple #[v0, .bool (addJudgeF d gs cs).2]) ∧ kM.fr w' w.heap.size w'.heap.size v0 (addJudgeF d gs cs).1 ∧ kM.ok (addJudgeF d gs cs).1 ∧ Ext w w' := by
  obtain ⟨A, c, A', c', rfl, h1, h2⟩ := kM.lr h
  obtain ⟨Ag, cg, rfl, hgs, hgc, hgm⟩ := hg
  obtain ⟨Ac, cc, rfl, hcs, hcc, hcm⟩ := hc
  have hgo : gs.length ≤ 1048576 := hgo
  have hco : cs.length ≤ 1048576 := hco
  have hok' : kdM.wt d ≤ 1048576 := hok
  have HGS := hide hgs
  have HCS := hide hcs
  have HR := hide h
  have H1 := hide h1
  have H2 := hide h2
  have a1 := h1.1; have a2 := h1.2.1; have a3 := h2.1; have a4 := h2.2.1
  clear h h1 h2 hgs hcs
  obtain ⟨n, hn⟩ : ∃ n, Hid (d.1.length = n) := ⟨_, rfl⟩
  obtain ⟨n', hn'⟩ : ∃ n', Hid (d.2.length = n') := ⟨_, rfl⟩
  obtain ⟨lg, hlg⟩ : ∃ n, Hid (gs.length = n) := ⟨_, rfl⟩
  obtain ⟨lc, hlc⟩ : ∃ n', Hid (cs.length = n') := ⟨_, rfl⟩
  rw [hn.out, hn'.out] at HR ⊢
  rw [hlg.out] at hgo hgc HGS ⊢
  rw [hlc.out] at hco hcc HCS ⊢
  rw [hn.out] at a1
  rw [hn'.out] at a3
  obtain ⟨W0, hW0⟩ : ∃ W0, Hid (W0 = (w.alloc (.cells #[.slice A n c, .slice A' n' c'] 25)).alloc (.cells #[.slice none 0 0, .slice none 0 0] 25)) := ⟨_, rfl⟩
  have X : Hid (Ext w W0) := by rw [hW0.out]; exact (Ext.alloc w _).trans (Ext.alloc _ _)
  have B0 : Hid (Blk W0 w.heap.size #[.slice A n c, .slice A' n' c'] 25) := by rw [hW0.out]; exact (Blk.new rfl _ _).alloc _
  have B1 : Hid (Blk W0 (w.heap.size + 1) #[.slice none 0 0, .slice none 0 0] 25) := by rw [hW0.out]; exact Blk.new (by simp) _ _
  obtain ⟨F, hF⟩ : ∃ F, Hid (addJudgeF d gs cs = F) := ⟨_, rfl⟩
  rw [hF.out]
  go_enter Tryz.func13, Tryz.ntmps13
  go_wp2_with fail
  rw [← hW0.out]
  clear hW0
  have hcl := s.mkAll_any A A' c c' w.heap.size d W0 (H1.out.ext X.out (Nat.le_refl _)) (H2.out.ext X.out (Nat.le_refl _)) X.out.size hok'
  rw [hn.out, hn'.out] at hcl
  refine hcl.mono ?_
  rintro e w1 ⟨rfl, x1⟩
  replace X := hide (X.out.trans x1)
  replace B0 := hide (B0.out.ext x1)
  replace B1 := hide (B1.out.ext x1)
  clear x1 hcl
  have c0_ := B0.out.cell; have c1_ := B1.out.cell; have f1_ := B1.out.free
  by_cases hall : marksB d = true ∧ lg = n ∧ lc = 3
  · obtain ⟨hm, hgn, hc3⟩ := hall
    have r1 := marksB_ok hm
    have l1 : n ≤ 14 := by have := r1.1; rw [hn.out] at this; exact this
    have l2 : n' ≤ 3 ∧ 3 ≤ n' := by have := r1.2.1; rw [hn'.out] at this; omega
    have l3 : lc ≤ 3 ∧ 3 ≤ lc := by omega
    have b1 : ((lg : Int) != n) = false := by simp [hgn]
    have b2 : ((lc : Int) != 3) = false := by simp [hc3]
    have HF : Hid (F = ifMarks (addN d.1 gs lg, addN d.2 cs lc)) := by show _ = _; rw [← hF.out]; simp [addJudgeF, hm, hlg.out, hlc.out, hn.out, hgn, hc3]
    have OK := hide (addJ_ok (gs := gs) (cs := cs) hm (by rw [hlg.out, hn.out]; exact hgn) (by rw [hlc.out]; exact hc3))
    have hgn' : lg ≤ n ∧ n ≤ lg := by omega
    have R9 : Hid ((∀ x ∈ d.1, x.length ≤ 9) ∧ ∀ x ∈ d.2, x.length ≤ 9) := ⟨fun x hx => by have := (r1.2.2.2.2.1 x hx).1; have := r1.2.2.2.1; omega, fun x hx => by have := (r1.2.2.2.2.2 x hx).1; have := r1.2.2.2.1; omega⟩
    clear r1 hgn hc3 hF
    go_wp2_with fail
    refine (s.mkOwn_any _ _ d (kM.rd_ext HR.out X.out) hok).mono ?_
    rintro e w2 ⟨v2, rfl, o2, x2⟩
    obtain ⟨A5, c5, A6, c6, fp, fp', rfl, p1, p2, f1, f2, fd⟩ := kM.open o2
    rw [hn.out, hn'.out]
    have z1 : w.heap.size + 1 < w1.heap.size := B1.out.lt
    have z2 := x2.size
    replace X := hide (X.out.trans x2)
    replace B1 := hide (B1.out.ext x2)
    have P1 := hide p1
    have P2 := hide p2
    have F1 := hide f1
    have F2 := hide f2
    have FD := hide fd
    have cp1 := p1.cap; have cp2 := p2.cap
    rw [hn.out] at cp1
    rw [hn'.out] at cp2
    clear o2 x2 p1 p2 f1 f2 fd B0 c0_ c1_ f1_ hm
    obtain ⟨W3, hW3⟩ : ∃ W3, Hid (W3 = w2.alloc (.cells #[.slice A5 n c5, .slice A6 n' c6] 25)) := ⟨_, rfl⟩
    have xa : Ext w2 W3 := by rw [hW3.out]; exact Ext.alloc _ _
    have B2 : Hid (Blk W3 w2.heap.size #[.slice A5 n c5, .slice A6 n' c6] 25) := by rw [hW3.out]; exact Blk.new rfl _ _
    go_wp2
    rw [← hW3.out]
    replace X := hide (X.out.trans xa)
    replace B1 := hide (B1.out.ext xa)
    replace P1 := hide (P1.out.ext xa)
    replace P2 := hide (P2.out.ext xa)
    clear hW3 xa
    go_loopw [34] (fun i wr => ∃ (k : Nat) (fq : List Nat), k ≤ n ∧ i = .int .i64 k ∧ LO kdL 31 wr A5 c5 (addN d.1 gs k) fq ∧ (∀ i ∈ fq, w1.heap.size ≤ i ∧ i ≠ w2.heap.size ∧ i ∉ fp') ∧ LO kdL 31 wr A6 c6 d.2 fp' ∧ Blk wr w2.heap.size #[.slice A5 n c5, .slice A6 n' c6] 25 ∧ Blk wr (w.heap.size + 1) #[.slice none 0 0, .slice none 0 0] 25 ∧ Ext w wr) (fun i _ => n - (intOf i).toNat)
    case atStart => exact ⟨0, fp, Nat.zero_le _, rfl, P1.out, fun i hi => ⟨(F1.out i hi).1, by have := F1.out i hi; omega, FD.out i hi⟩, P2.out, B2.out, B1.out, X.out⟩
    case round =>
      obtain ⟨k, fq, hk, rfl, p1, f1, p2, b2, b1', hx⟩ := hrel
      clear P1 P2 B1 B2 X
      have P1 := hide p1
      have F5 := hide f1
      have P2 := hide p2
      have B1 := hide b1'
      have B2 := hide b2
      have X := hide hx
      clear p1 f1 p2 b2 b1' hx
      by_cases hlt : k < lg
      · obtain ⟨b, off, rfl, hb, hcg⟩ := (HGS.out.ext X.out (Nat.le_refl _)).cells (by omega)
        have hcy := hcg k hlt
        clear hcg
        obtain ⟨x, hxk⟩ : ∃ x, Hid ((addN d.1 gs k)[k]? = some x) := ⟨_, List.getElem?_eq_getElem (by rw [addN_len, hn.out]; omega)⟩
        have hx9 : x.length ≤ 9 := R9.out.1 x (List.mem_of_getElem? ((addN_at d.1 gs k k (Nat.le_refl _)).symm.trans hxk.out))
        have HN : Hid (addN d.1 gs (k + 1) = (addN d.1 gs k).set k (x ++ [gs.getD k 0])) := by show _ = _; simp [addN, hxk.out]
        generalize gs.getD k 0 = y at *
        obtain ⟨g, Ax, cx, rfl, gm, gc, gf, go, ga, _⟩ := P1.out.grow k x hxk.out
        have PL := hide ((P1.out.ext (Ext.alloc wr (.cells #[.int .i64 y] 3))).ext (Ext.drew _))
        obtain ⟨g', Ax', cx', e1, _, gc', gf', go', _, gr⟩ := PL.out.grow k x hxk.out
        simp only [Option.some.injEq, Addr.mk.injEq, and_true] at e1
        subst e1
        have e2 : some (Value.slice Ax x.length cx) = some (.slice Ax' x.length cx') := gc.symm.trans ((cellA (w := wr) (by have := P1.out.lt g gm; simpa using this)).symm.trans gc')
        simp only [Option.some.injEq, Value.slice.injEq, true_and] at e2
        obtain ⟨rfl, rfl⟩ := e2
        have GO := hide go'
        have GR := hide gr
        have q1 := go.capn; have q2 := go.capm
        have cB := B2.out.cell
        have cBa := (B2.out.alloc (.cells #[.int .i64 y] 3)).cell
        have glt := P1.out.lt g gm
        have gca : (wr.alloc (.cells #[.int .i64 y] 3)).cell? ⟨g, k, none⟩ = some (.slice Ax x.length cx) := gc'
        clear go go' gr gc' gf'
        have Y2 : Hid (Ext wr (wr.alloc (.cells #[.int .i64 y] 3)).drew) := (Ext.alloc _ _).trans (Ext.drew _)
        have NF : Hid (∀ i, i < w1.heap.size ∨ i = w2.heap.size ∨ i ∈ fp' → i ∉ fq) := fun i hi hm => by
          have h8 := F5.out i hm
          rcases hi with h | h | h
          · omega
          · exact h8.2.1 h
          · exact h8.2.2 h
        have hkn : k < n := by omega
        have hki : (k : Int) < n := by omega
        have b3 : (x.length + 1) * 8 ≤ 140737488355328 := by omega
        have b4 : x.length + 1 ≤ 4611686018427387904 := by omega
        go_wp2
        go_region_law (first | (refine step_append_sl (by rfl) (.tmp 46) (.tmp 48) (by rfl) elem_int (by rfl) (by rfl) (lo := 0) GO.out (Sl.one wr (.int .i64 y) 3).drew (one_int y) b3 b4 (Nat.zero_le _) ?_; intro A3 c3 w3 hap; have h9 := GR.out w3 A3 _ c3 (x ++ [y]) (by simpa using hap); have c9 := h9.1; have f9 := h9.2.1; have cB3 := ((B2.out.ext Y2.out).tchF h9.2.2.1 (NF.out _ (.inr (.inl rfl)))).cell; have H9 := hide h9; clear h9))
        all_goals
          go_wp2
          go_roundw
          case rel =>
            obtain ⟨_, _, ht, fq', hl, hs⟩ := H9.out
            have y1 := B2.out.lt
            have y2 := Y2.out
            have gF := F5.out g gm
            have nf := NF.out
            refine ⟨k + 1, fq', by omega, by go_num, by rw [HN.out]; exact hl, fun i hi => ?_, (((P2.out.ext y2).keep (fun i hi => ht.block i (Nat.lt_of_lt_of_le (P2.out.lt i hi) y2.size) (nf i (.inr (.inr hi))))).keep (fun i hi => Below.heap_setCell _ _ _ _ (fun (e : i = g) => gF.2.2 (e ▸ hi)))), (((B2.out.ext y2).tchF ht (nf _ (.inr (.inl rfl)))).far (fun e => gF.2.1 e.symm) _), (((B1.out.ext y2).tchF ht (nf _ (.inl z1))).far (by simp; omega) _), Below.setCell ((X.out.trans y2).tchF ht (fun i hi => by have := F5.out i hi; omega)) (by simp <;> omega) _⟩
            rcases hs i hi with h | h
            · exact F5.out i h
            · have h7 : i = wr.heap.size + 1 := by rw [h]; simp [World.drew]
              exact ⟨by omega, by omega, fun hm => by have := P2.out.lt i hm; omega⟩
          case measure => simp [intOf]; omega
      · have ek : lg = k := by omega
        subst ek
        -- the second list grows, the first one stays: rename
        obtain ⟨fr, hfr⟩ : ∃ fr, Hid (fr = fp') := ⟨_, rfl⟩
        have F3 : Hid (∀ i ∈ fr, w1.heap.size ≤ i ∧ i ≠ w2.heap.size ∧ i ∉ fq) := fun i hi => by
          rw [hfr.out] at hi
          exact ⟨(F2.out i hi).1, by have := F2.out i hi; omega, fun hm => (F5.out i hm).2.2 hi⟩
        have Pa := P1; have Pb := P2
        rw [← hfr.out] at Pb
        clear P1 P2 F1 F2 FD hfr
        have P1 := Pb; have P2 := Pa
        have F6 : Hid (∀ i ∈ fq, w1.heap.size ≤ i ∧ i ≠ w2.heap.size) := fun i hi => ⟨(F5.out i hi).1, (F5.out i hi).2.1⟩
        clear F5 Pa Pb
        obtain ⟨fz, hfz⟩ : ∃ fz, fz = fq := ⟨_, rfl⟩
        subst hfz
        go_wp2
        go_loopw [54] (fun i wr => ∃ (k : Nat) (fq : List Nat), k ≤ lc ∧ i = .int .i64 k ∧ LO kdL 31 wr A6 c6 (addN d.2 cs k) fq ∧ (∀ i ∈ fq, w1.heap.size ≤ i ∧ i ≠ w2.heap.size ∧ i ∉ fz) ∧ LO kdL 31 wr A5 c5 (addN d.1 gs lg) fz ∧ Blk wr w2.heap.size #[.slice A5 n c5, .slice A6 n' c6] 25 ∧ Blk wr (w.heap.size + 1) #[.slice none 0 0, .slice none 0 0] 25 ∧ Ext w wr) (fun i _ => lc - (intOf i).toNat)
        case atStart => exact ⟨0, fr, Nat.zero_le _, rfl, P1.out, F3.out, P2.out, B2.out, B1.out, X.out⟩
        case round =>
          obtain ⟨k, fq, hk, rfl, p1, f1, p2, b2, b1', hx⟩ := hrel
          clear P1 P2 B1 B2 X
          have P1 := hide p1
          have F5 := hide f1
          have P2 := hide p2
          have B1 := hide b1'
          have B2 := hide b2
          have X := hide hx
          clear p1 f1 p2 b2 b1' hx
          by_cases hlt : k < lc
          · obtain ⟨b, off, rfl, hb, hcg⟩ := (HCS.out.ext X.out (Nat.le_refl _)).cells (by omega)
            have hcy := hcg k hlt
            clear hcg
            obtain ⟨x, hxk⟩ : ∃ x, Hid ((addN d.2 cs k)[k]? = some x) := ⟨_, List.getElem?_eq_getElem (by rw [addN_len, hn'.out]; omega)⟩
            have hx9 : x.length ≤ 9 := R9.out.2 x (List.mem_of_getElem? ((addN_at d.2 cs k k (Nat.le_refl _)).symm.trans hxk.out))
            have HN : Hid (addN d.2 cs (k + 1) = (addN d.2 cs k).set k (x ++ [cs.getD k 0])) := by show _ = _; simp [addN, hxk.out]
            generalize cs.getD k 0 = y at *
            obtain ⟨g, Ax, cx, rfl, gm, gc, gf, go, ga, _⟩ := P1.out.grow k x hxk.out
            have PL := hide ((P1.out.ext (Ext.alloc wr (.cells #[.int .i64 y] 3))).ext (Ext.drew _))
            obtain ⟨g', Ax', cx', e1, _, gc', gf', go', _, gr⟩ := PL.out.grow k x hxk.out
            simp only [Option.some.injEq, Addr.mk.injEq, and_true] at e1
            subst e1
            have e2 : some (Value.slice Ax x.length cx) = some (.slice Ax' x.length cx') := gc.symm.trans ((cellA (w := wr) (by have := P1.out.lt g gm; simpa using this)).symm.trans gc')
            simp only [Option.some.injEq, Value.slice.injEq, true_and] at e2
            obtain ⟨rfl, rfl⟩ := e2
            have GO := hide go'
            have GR := hide gr
            have q1 := go.capn; have q2 := go.capm
            have cB := B2.out.cell
            have cBa := (B2.out.alloc (.cells #[.int .i64 y] 3)).cell
            have glt := P1.out.lt g gm
            have gca : (wr.alloc (.cells #[.int .i64 y] 3)).cell? ⟨g, k, none⟩ = some (.slice Ax x.length cx) := gc'
            clear go go' gr gc' gf'
            have Y2 : Hid (Ext wr (wr.alloc (.cells #[.int .i64 y] 3)).drew) := (Ext.alloc _ _).trans (Ext.drew _)
            have NF : Hid (∀ i, i < w1.heap.size ∨ i = w2.heap.size ∨ i ∈ fz → i ∉ fq) := fun i hi hm => by
              have h8 := F5.out i hm
              rcases hi with h | h | h
              · omega
              · exact h8.2.1 h
              · exact h8.2.2 h
            have hkn : k < n' := by omega
            have hki : (k : Int) < n' := by omega
            have b3 : (x.length + 1) * 8 ≤ 140737488355328 := by omega
            have b4 : x.length + 1 ≤ 4611686018427387904 := by omega
            go_wp2
            go_region_law (first | (refine step_append_sl (by rfl) (.tmp 66) (.tmp 68) (by rfl) elem_int (by rfl) (by rfl) (lo := 0) GO.out (Sl.one wr (.int .i64 y) 3).drew (one_int y) b3 b4 (Nat.zero_le _) ?_; intro A3 c3 w3 hap; have h9 := GR.out w3 A3 _ c3 (x ++ [y]) (by simpa using hap); have c9 := h9.1; have f9 := h9.2.1; have cB3 := ((B2.out.ext Y2.out).tchF h9.2.2.1 (NF.out _ (.inr (.inl rfl)))).cell; have H9 := hide h9; clear h9))
            all_goals
              go_wp2
              go_roundw
              case rel =>
                obtain ⟨_, _, ht, fq', hl, hs⟩ := H9.out
                have y1 := B2.out.lt
                have y2 := Y2.out
                have gF := F5.out g gm
                have nf := NF.out
                refine ⟨k + 1, fq', by omega, by go_num, by rw [HN.out]; exact hl, fun i hi => ?_, (((P2.out.ext y2).keep (fun i hi => ht.block i (Nat.lt_of_lt_of_le (P2.out.lt i hi) y2.size) (nf i (.inr (.inr hi))))).keep (fun i hi => Below.heap_setCell _ _ _ _ (fun (e : i = g) => gF.2.2 (e ▸ hi)))), (((B2.out.ext y2).tchF ht (nf _ (.inr (.inl rfl)))).far (fun e => gF.2.1 e.symm) _), (((B1.out.ext y2).tchF ht (nf _ (.inl z1))).far (by simp; omega) _), Below.setCell ((X.out.trans y2).tchF ht (fun i hi => by have := F5.out i hi; omega)) (by simp <;> omega) _⟩
                rcases hs i hi with h | h
                · exact F5.out i h
                · have h7 : i = wr.heap.size + 1 := by rw [h]; simp [World.drew]
                  exact ⟨by omega, by omega, fun hm => by have := P2.out.lt i hm; omega⟩
              case measure => simp [intOf]; omega
          · have ek : lc = k := by omega
            subst ek
            have FR : Hid (kM.fr wr w1.heap.size wr.heap.size (.agg #[.slice A5 n c5, .slice A6 n' c6]) (addN d.1 gs lg, addN d.2 cs lc)) :=
              kM.mk (d := (addN d.1 gs lg, addN d.2 cs lc)) P2.out P1.out (by show n = (addN d.1 gs lg).length; rw [addN_len, hn.out]) (by show n' = (addN d.2 cs lc).length; rw [addN_len, hn'.out]) (fun i hi => ⟨(F6.out i hi).1, P2.out.lt i hi⟩) (fun i hi => ⟨(F5.out i hi).1, P1.out.lt i hi⟩) (fun i hi hm => (F5.out i hm).2.2 hi)
            have okS : kM.ok (addN d.1 gs lg, addN d.2 cs lc) := by have h8 := OK.out; rw [hlg.out, hlc.out] at h8; exact h8
            have OKS := hide okS
            have cB := B2.out.cell
            clear P1 P2 F5 F6 F3 okS OK R9
            go_wp2_with fail
            refine (s.mkIf_any wr _ _ (kM.fr_rd FR.out) OKS.out).mono ?_
            rintro e w5 ⟨v5, rfl, hv1, hv2, x5⟩
            replace FR := hide (kM.fr_ext FR.out x5)
            have z6 := x5.size
            replace X := hide (X.out.trans x5)
            replace B1 := hide (B1.out.ext x5)
            have HV1 := hide hv1
            have HV2 := hide hv2
            clear x5 hv1 hv2 cB B2 HR
            have c1_ := B1.out.cell; have f1_ := B1.out.free
            cases hb : marksB (addN d.1 gs lg, addN d.2 cs lc)
            · have e5 := HV2.out hb
              have hf : Hid (F = (([], []), false)) := by show _ = _; rw [HF.out]; simp [ifMarks, hb]
              clear hb
              subst e5
              clear HV1 HV2
              unfold noMarks
              go_wp2
              refine bodyPost_ret (v := .tuple #[noMarks, .bool false]) (by simp [results, Tryz.results13, go_sem, c1_, noMarks]) rfl ?_
              rw [hf.out]
              exact ⟨noMarks, rfl, kM.fr_nil _ _ _, kM.ok_nil, Below.setCell (Below.setCell X.out (by simp) _) (by simp) _⟩
            · have e5 := HV1.out hb
              have hf : Hid (F = ((addN d.1 gs lg, addN d.2 cs lc), true)) := by show _ = _; rw [HF.out]; simp [ifMarks, hb]
              clear hb
              subst e5
              clear HV1 HV2
              go_wp2
              refine bodyPost_ret (v := .tuple #[.agg #[.slice A5 n c5, .slice A6 n' c6], .bool true]) (by simp [results, Tryz.results13, go_sem, c1_]) rfl ?_
              rw [hf.out]
              refine ⟨_, rfl, kM.fr_mono (kM.fr_far (kM.fr_far FR.out _ (by simp; omega) _) _ (by simp; omega) _) (by omega) ?_, OKS.out, Below.setCell (Below.setCell X.out (by simp) _) (by simp) _⟩
              simp
              omega
  · have hf : Hid (F = (([], []), false)) := by
      show _ = _
      rw [← hF.out]
      unfold addJudgeF
      rw [if_neg]
      rw [hlg.out, hlc.out, hn.out]
      simp only [Bool.and_eq_true, decide_eq_true_eq]
      rintro ⟨⟨a, b⟩, c⟩
      exact hall ⟨a, b, c⟩
    cases hm : marksB d
    · clear hm hall
      go_wp2
      refine bodyPost_ret (v := .tuple #[noMarks, .bool false]) (by simp [results, Tryz.results13, go_sem, c1_, noMarks]) rfl ?_
      rw [hf.out]
      exact ⟨noMarks, rfl, kM.fr_nil _ _ _, kM.ok_nil, Below.setCell (Below.setCell X.out (by simp) _) (by simp) _⟩
    · by_cases hg : lg = n
      · have b1 : ((lg : Int) != n) = false := by simp [hg]
        have b2 : ((lc : Int) != 3) = true := by
          rw [bne_iff_ne]
          intro h8
          exact hall ⟨hm, hg, by omega⟩
        have hge : lg ≤ n ∧ n ≤ lg := by omega
        clear hm hall hg
        go_wp2
        refine bodyPost_ret (v := .tuple #[noMarks, .bool false]) (by simp [results, Tryz.results13, go_sem, c1_, noMarks]) rfl ?_
        rw [hf.out]
        exact ⟨noMarks, rfl, kM.fr_nil _ _ _, kM.ok_nil, Below.setCell (Below.setCell X.out (by simp) _) (by simp) _⟩
      · have b1 : ((lg : Int) != n) = true := by
          rw [bne_iff_ne]
          intro h8
          exact hg (by omega)
        clear hm hall hg
        go_wp2
        refine bodyPost_ret (v := .tuple #[noMarks, .bool false]) (by simp [results, Tryz.results13, go_sem, c1_, noMarks]) rfl ?_
        rw [hf.out]
        exact ⟨noMarks, rfl, kM.fr_nil _ _ _, kM.ok_nil, Below.setCell (Below.setCell X.out (by simp) _) (by simp) _⟩

set_option maxRecDepth 100000 in
set_option maxHeartbeats 4000000 in
theorem i.AddJudge_law (w : World) (v v1 v2 : Value) (d : MD) (gs cs : List Int) (h : kM.rd w v d) (hok : kM.ok d) (hg : kI.rd w v1 gs) (hgo : kI.ok gs) (hc : kI.rd w v2 cs) (hco : kI.ok cs) :
    Calls Tryz.prog 12 #[v, v1, v2] w fun e w' => ∃ v0, e = .returned (.tuple #[v0, .bool (addJudgeF d gs cs).2]) ∧ kM.fr w' w.heap.size w'.heap.size v0 (addJudgeF d gs cs).1 ∧ kM.ok (addJudgeF d gs cs).1 ∧ Ext w w' := by
  obtain ⟨A, c, A', c', rfl, h1, h2⟩ := kM.lr h
  obtain ⟨Ag, cg, rfl, hgs, hgc, hgm⟩ := hg
  obtain ⟨Ac, cc, rfl, hcs, hcc, hcm⟩ := hc
  have hgo : gs.length ≤ 1048576 := hgo
  have hco : cs.length ≤ 1048576 := hco
  have hok' : kdM.wt d ≤ 1048576 := hok
  have HGS := hide hgs
  have HCS := hide hcs
  have HR := hide h
  have H1 := hide h1
  have H2 := hide h2
  have a1 := h1.1; have a2 := h1.2.1; have a3 := h2.1; have a4 := h2.2.1
  clear h h1 h2 hgs hcs
  obtain ⟨n, hn⟩ : ∃ n, Hid (d.1.length = n) := ⟨_, rfl⟩
  obtain ⟨n', hn'⟩ : ∃ n', Hid (d.2.length = n') := ⟨_, rfl⟩
  obtain ⟨lg, hlg⟩ : ∃ n, Hid (gs.length = n) := ⟨_, rfl⟩
  obtain ⟨lc, hlc⟩ : ∃ n', Hid (cs.length = n') := ⟨_, rfl⟩
  rw [hn.out, hn'.out] at HR ⊢
  rw [hlg.out] at hgo hgc HGS ⊢
  rw [hlc.out] at hco hcc HCS ⊢
  rw [hn.out] at a1
  rw [hn'.out] at a3
  obtain ⟨W0, hW0⟩ : ∃ W0, Hid (W0 = (w.alloc (.cells #[.slice A n c, .slice A' n' c'] 25)).alloc (.cells #[.slice none 0 0, .slice none 0 0] 25)) := ⟨_, rfl⟩
  have X : Hid (Ext w W0) := by rw [hW0.out]; exact (Ext.alloc w _).trans (Ext.alloc _ _)
  have B0 : Hid (Blk W0 w.heap.size #[.slice A n c, .slice A' n' c'] 25) := by rw [hW0.out]; exact (Blk.new rfl _ _).alloc _
  have B1 : Hid (Blk W0 (w.heap.size + 1) #[.slice none 0 0, .slice none 0 0] 25) := by rw [hW0.out]; exact Blk.new (by simp) _ _
  obtain ⟨F, hF⟩ : ∃ F, Hid (addJudgeF d gs cs = F) := ⟨_, rfl⟩
  rw [hF.out]
  go_enter Tryz.func12, Tryz.ntmps12
  go_wp2_with fail
  rw [← hW0.out]
  clear hW0
  have hcl := i.isMarks_any A A' c c' w.heap.size d W0 (H1.out.ext X.out (Nat.le_refl _)) (H2.out.ext X.out (Nat.le_refl _)) X.out.size hok'
  rw [hn.out, hn'.out] at hcl
  refine hcl.mono ?_
  rintro e w1 ⟨rfl, x1⟩
  replace X := hide (X.out.trans x1)
  replace B0 := hide (B0.out.ext x1)
  replace B1 := hide (B1.out.ext x1)
  clear x1 hcl
  have c0_ := B0.out.cell; have c1_ := B1.out.cell; have f1_ := B1.out.free
  by_cases hall : marksB d = true ∧ lg = n ∧ lc = 3
  · obtain ⟨hm, hgn, hc3⟩ := hall
    have r1 := marksB_ok hm
    have l1 : n ≤ 14 := by have := r1.1; rw [hn.out] at this; exact this
    have l2 : n' ≤ 3 ∧ 3 ≤ n' := by have := r1.2.1; rw [hn'.out] at this; omega
    have l3 : lc ≤ 3 ∧ 3 ≤ lc := by omega
    have b1 : ((lg : Int) != n) = false := by simp [hgn]
    have b2 : ((lc : Int) != 3) = false := by simp [hc3]
    have HF : Hid (F = ifMarks (addN d.1 gs lg, addN d.2 cs lc)) := by show _ = _; rw [← hF.out]; simp [addJudgeF, hm, hlg.out, hlc.out, hn.out, hgn, hc3]
    have OK := hide (addJ_ok (gs := gs) (cs := cs) hm (by rw [hlg.out, hn.out]; exact hgn) (by rw [hlc.out]; exact hc3))
    have hgn' : lg ≤ n ∧ n ≤ lg := by omega
    have R9 : Hid ((∀ x ∈ d.1, x.length ≤ 9) ∧ ∀ x ∈ d.2, x.length ≤ 9) := ⟨fun x hx => by have := (r1.2.2.2.2.1 x hx).1; have := r1.2.2.2.1; omega, fun x hx => by have := (r1.2.2.2.2.2 x hx).1; have := r1.2.2.2.1; omega⟩
    clear r1 hgn hc3 hF
    go_wp2_with fail
    refine (i.copyMarks_any _ _ d (kM.rd_ext HR.out X.out) hok).mono ?_
    rintro e w2 ⟨v2, rfl, o2, x2⟩
    obtain ⟨A5, c5, A6, c6, fp, fp', rfl, p1, p2, f1, f2, fd⟩ := kM.open o2
    rw [hn.out, hn'.out]
    have z1 : w.heap.size + 1 < w1.heap.size := B1.out.lt
    have z2 := x2.size
    replace X := hide (X.out.trans x2)
    replace B1 := hide (B1.out.ext x2)
    have P1 := hide p1
    have P2 := hide p2
    have F1 := hide f1
    have F2 := hide f2
    have FD := hide fd
    have cp1 := p1.cap; have cp2 := p2.cap
    rw [hn.out] at cp1
    rw [hn'.out] at cp2
    clear o2 x2 p1 p2 f1 f2 fd B0 c0_ c1_ f1_ hm
    obtain ⟨W3, hW3⟩ : ∃ W3, Hid (W3 = w2.alloc (.cells #[.slice A5 n c5, .slice A6 n' c6] 25)) := ⟨_, rfl⟩
    have xa : Ext w2 W3 := by rw [hW3.out]; exact Ext.alloc _ _
    have B2 : Hid (Blk W3 w2.heap.size #[.slice A5 n c5, .slice A6 n' c6] 25) := by rw [hW3.out]; exact Blk.new rfl _ _
    go_wp2
    rw [← hW3.out]
    replace X := hide (X.out.trans xa)
    replace B1 := hide (B1.out.ext xa)
    replace P1 := hide (P1.out.ext xa)
    replace P2 := hide (P2.out.ext xa)
    clear hW3 xa
    go_loopw [34] (fun i wr => ∃ (k : Nat) (fq : List Nat), k ≤ n ∧ i = .int .i64 k ∧ LO kdL 31 wr A5 c5 (addN d.1 gs k) fq ∧ (∀ i ∈ fq, w1.heap.size ≤ i ∧ i ≠ w2.heap.size ∧ i ∉ fp') ∧ LO kdL 31 wr A6 c6 d.2 fp' ∧ Blk wr w2.heap.size #[.slice A5 n c5, .slice A6 n' c6] 25 ∧ Blk wr (w.heap.size + 1) #[.slice none 0 0, .slice none 0 0] 25 ∧ Ext w wr) (fun i _ => n - (intOf i).toNat)
    case atStart => exact ⟨0, fp, Nat.zero_le _, rfl, P1.out, fun i hi => ⟨(F1.out i hi).1, by have := F1.out i hi; omega, FD.out i hi⟩, P2.out, B2.out, B1.out, X.out⟩
    case round =>
      obtain ⟨k, fq, hk, rfl, p1, f1, p2, b2, b1', hx⟩ := hrel
      clear P1 P2 B1 B2 X
      have P1 := hide p1
      have F5 := hide f1
      have P2 := hide p2
      have B1 := hide b1'
      have B2 := hide b2
      have X := hide hx
      clear p1 f1 p2 b2 b1' hx
      by_cases hlt : k < lg
      · obtain ⟨b, off, rfl, hb, hcg⟩ := (HGS.out.ext X.out (Nat.le_refl _)).cells (by omega)
        have hcy := hcg k hlt
        clear hcg
        obtain ⟨x, hxk⟩ : ∃ x, Hid ((addN d.1 gs k)[k]? = some x) := ⟨_, List.getElem?_eq_getElem (by rw [addN_len, hn.out]; omega)⟩
        have hx9 : x.length ≤ 9 := R9.out.1 x (List.mem_of_getElem? ((addN_at d.1 gs k k (Nat.le_refl _)).symm.trans hxk.out))
        have HN : Hid (addN d.1 gs (k + 1) = (addN d.1 gs k).set k (x ++ [gs.getD k 0])) := by show _ = _; simp [addN, hxk.out]
        generalize gs.getD k 0 = y at *
        obtain ⟨g, Ax, cx, rfl, gm, gc, gf, go, ga, _⟩ := P1.out.grow k x hxk.out
        have PL := hide ((P1.out.ext (Ext.alloc wr (.cells #[.int .i64 y] 3))).ext (Ext.drew _))
        obtain ⟨g', Ax', cx', e1, _, gc', gf', go', _, gr⟩ := PL.out.grow k x hxk.out
        simp only [Option.some.injEq, Addr.mk.injEq, and_true] at e1
        subst e1
        have e2 : some (Value.slice Ax x.length cx) = some (.slice Ax' x.length cx') := gc.symm.trans ((cellA (w := wr) (by have := P1.out.lt g gm; simpa using this)).symm.trans gc')
        simp only [Option.some.injEq, Value.slice.injEq, true_and] at e2
        obtain ⟨rfl, rfl⟩ := e2
        have GO := hide go'
        have GR := hide gr
        have q1 := go.capn; have q2 := go.capm
        have cB := B2.out.cell
        have cBa := (B2.out.alloc (.cells #[.int .i64 y] 3)).cell
        have glt := P1.out.lt g gm
        have gca : (wr.alloc (.cells #[.int .i64 y] 3)).cell? ⟨g, k, none⟩ = some (.slice Ax x.length cx) := gc'
        clear go go' gr gc' gf'
        have Y2 : Hid (Ext wr (wr.alloc (.cells #[.int .i64 y] 3)).drew) := (Ext.alloc _ _).trans (Ext.drew _)
        have NF : Hid (∀ i, i < w1.heap.size ∨ i = w2.heap.size ∨ i ∈ fp' → i ∉ fq) := fun i hi hm => by
          have h8 := F5.out i hm
          rcases hi with h | h | h
          · omega
          · exact h8.2.1 h
          · exact h8.2.2 h
        have hkn : k < n := by omega
        have hki : (k : Int) < n := by omega
        have b3 : (x.length + 1) * 8 ≤ 140737488355328 := by omega
        have b4 : x.length + 1 ≤ 4611686018427387904 := by omega
        go_wp2
        go_region_law (first | (refine step_append_sl (by rfl) (.tmp 46) (.tmp 48) (by rfl) elem_int (by rfl) (by rfl) (lo := 0) GO.out (Sl.one wr (.int .i64 y) 3).drew (one_int y) b3 b4 (Nat.zero_le _) ?_; intro A3 c3 w3 hap; have h9 := GR.out w3 A3 _ c3 (x ++ [y]) (by simpa using hap); have c9 := h9.1; have f9 := h9.2.1; have cB3 := ((B2.out.ext Y2.out).tchF h9.2.2.1 (NF.out _ (.inr (.inl rfl)))).cell; have H9 := hide h9; clear h9))
        all_goals
          go_wp2
          go_roundw
          case rel =>
            obtain ⟨_, _, ht, fq', hl, hs⟩ := H9.out
            have y1 := B2.out.lt
            have y2 := Y2.out
            have gF := F5.out g gm
            have nf := NF.out
            refine ⟨k + 1, fq', by omega, by go_num, by rw [HN.out]; exact hl, fun i hi => ?_, (((P2.out.ext y2).keep (fun i hi => ht.block i (Nat.lt_of_lt_of_le (P2.out.lt i hi) y2.size) (nf i (.inr (.inr hi))))).keep (fun i hi => Below.heap_setCell _ _ _ _ (fun (e : i = g) => gF.2.2 (e ▸ hi)))), (((B2.out.ext y2).tchF ht (nf _ (.inr (.inl rfl)))).far (fun e => gF.2.1 e.symm) _), (((B1.out.ext y2).tchF ht (nf _ (.inl z1))).far (by simp; omega) _), Below.setCell ((X.out.trans y2).tchF ht (fun i hi => by have := F5.out i hi; omega)) (by simp <;> omega) _⟩
            rcases hs i hi with h | h
            · exact F5.out i h
            · have h7 : i = wr.heap.size + 1 := by rw [h]; simp [World.drew]
              exact ⟨by omega, by omega, fun hm => by have := P2.out.lt i hm; omega⟩
          case measure => simp [intOf]; omega
      · have ek : lg = k := by omega
        subst ek
        -- the second list grows, the first one stays: rename
        obtain ⟨fr, hfr⟩ : ∃ fr, Hid (fr = fp') := ⟨_, rfl⟩
        have F3 : Hid (∀ i ∈ fr, w1.heap.size ≤ i ∧ i ≠ w2.heap.size ∧ i ∉ fq) := fun i hi => by
          rw [hfr.out] at hi
          exact ⟨(F2.out i hi).1, by have := F2.out i hi; omega, fun hm => (F5.out i hm).2.2 hi⟩
        have Pa := P1; have Pb := P2
        rw [← hfr.out] at Pb
        clear P1 P2 F1 F2 FD hfr
        have P1 := Pb; have P2 := Pa
        have F6 : Hid (∀ i ∈ fq, w1.heap.size ≤ i ∧ i ≠ w2.heap.size) := fun i hi => ⟨(F5.out i hi).1, (F5.out i hi).2.1⟩
        clear F5 Pa Pb
        obtain ⟨fz, hfz⟩ : ∃ fz, fz = fq := ⟨_, rfl⟩
        subst hfz
        go_wp2
        go_loopw [54] (fun i wr => ∃ (k : Nat) (fq : List Nat), k ≤ lc ∧ i = .int .i64 k ∧ LO kdL 31 wr A6 c6 (addN d.2 cs k) fq ∧ (∀ i ∈ fq, w1.heap.size ≤ i ∧ i ≠ w2.heap.size ∧ i ∉ fz) ∧ LO kdL 31 wr A5 c5 (addN d.1 gs lg) fz ∧ Blk wr w2.heap.size #[.slice A5 n c5, .slice A6 n' c6] 25 ∧ Blk wr (w.heap.size + 1) #[.slice none 0 0, .slice none 0 0] 25 ∧ Ext w wr) (fun i _ => lc - (intOf i).toNat)
        case atStart => exact ⟨0, fr, Nat.zero_le _, rfl, P1.out, F3.out, P2.out, B2.out, B1.out, X.out⟩
        case round =>
          obtain ⟨k, fq, hk, rfl, p1, f1, p2, b2, b1', hx⟩ := hrel
          clear P1 P2 B1 B2 X
          have P1 := hide p1
          have F5 := hide f1
          have P2 := hide p2
          have B1 := hide b1'
          have B2 := hide b2
          have X := hide hx
          clear p1 f1 p2 b2 b1' hx
          by_cases hlt : k < lc
          · obtain ⟨b, off, rfl, hb, hcg⟩ := (HCS.out.ext X.out (Nat.le_refl _)).cells (by omega)
            have hcy := hcg k hlt
            clear hcg
            obtain ⟨x, hxk⟩ : ∃ x, Hid ((addN d.2 cs k)[k]? = some x) := ⟨_, List.getElem?_eq_getElem (by rw [addN_len, hn'.out]; omega)⟩
            have hx9 : x.length ≤ 9 := R9.out.2 x (List.mem_of_getElem? ((addN_at d.2 cs k k (Nat.le_refl _)).symm.trans hxk.out))
            have HN : Hid (addN d.2 cs (k + 1) = (addN d.2 cs k).set k (x ++ [cs.getD k 0])) := by show _ = _; simp [addN, hxk.out]
            generalize cs.getD k 0 = y at *
            obtain ⟨g, Ax, cx, rfl, gm, gc, gf, go, ga, _⟩ := P1.out.grow k x hxk.out
            have PL := hide ((P1.out.ext (Ext.alloc wr (.cells #[.int .i64 y] 3))).ext (Ext.drew _))
            obtain ⟨g', Ax', cx', e1, _, gc', gf', go', _, gr⟩ := PL.out.grow k x hxk.out
            simp only [Option.some.injEq, Addr.mk.injEq, and_true] at e1
            subst e1
            have e2 : some (Value.slice Ax x.length cx) = some (.slice Ax' x.length cx') := gc.symm.trans ((cellA (w := wr) (by have := P1.out.lt g gm; simpa using this)).symm.trans gc')
            simp only [Option.some.injEq, Value.slice.injEq, true_and] at e2
            obtain ⟨rfl, rfl⟩ := e2
            have GO := hide go'
            have GR := hide gr
            have q1 := go.capn; have q2 := go.capm
            have cB := B2.out.cell
            have cBa := (B2.out.alloc (.cells #[.int .i64 y] 3)).cell
            have glt := P1.out.lt g gm
            have gca : (wr.alloc (.cells #[.int .i64 y] 3)).cell? ⟨g, k, none⟩ = some (.slice Ax x.length cx) := gc'
            clear go go' gr gc' gf'
            have Y2 : Hid (Ext wr (wr.alloc (.cells #[.int .i64 y] 3)).drew) := (Ext.alloc _ _).trans (Ext.drew _)
            have NF : Hid (∀ i, i < w1.heap.size ∨ i = w2.heap.size ∨ i ∈ fz → i ∉ fq) := fun i hi hm => by
              have h8 := F5.out i hm
              rcases hi with h | h | h
              · omega
              · exact h8.2.1 h
              · exact h8.2.2 h
            have hkn : k < n' := by omega
            have hki : (k : Int) < n' := by omega
            have b3 : (x.length + 1) * 8 ≤ 140737488355328 := by omega
            have b4 : x.length + 1 ≤ 4611686018427387904 := by omega
            go_wp2
            go_region_law (first | (refine step_append_sl (by rfl) (.tmp 66) (.tmp 68) (by rfl) elem_int (by rfl) (by rfl) (lo := 0) GO.out (Sl.one wr (.int .i64 y) 3).drew (one_int y) b3 b4 (Nat.zero_le _) ?_; intro A3 c3 w3 hap; have h9 := GR.out w3 A3 _ c3 (x ++ [y]) (by simpa using hap); have c9 := h9.1; have f9 := h9.2.1; have cB3 := ((B2.out.ext Y2.out).tchF h9.2.2.1 (NF.out _ (.inr (.inl rfl)))).cell; have H9 := hide h9; clear h9))
            all_goals
              go_wp2
              go_roundw
              case rel =>
                obtain ⟨_, _, ht, fq', hl, hs⟩ := H9.out
                have y1 := B2.out.lt
                have y2 := Y2.out
                have gF := F5.out g gm
                have nf := NF.out
                refine ⟨k + 1, fq', by omega, by go_num, by rw [HN.out]; exact hl, fun i hi => ?_, (((P2.out.ext y2).keep (fun i hi => ht.block i (Nat.lt_of_lt_of_le (P2.out.lt i hi) y2.size) (nf i (.inr (.inr hi))))).keep (fun i hi => Below.heap_setCell _ _ _ _ (fun (e : i = g) => gF.2.2 (e ▸ hi)))), (((B2.out.ext y2).tchF ht (nf _ (.inr (.inl rfl)))).far (fun e => gF.2.1 e.symm) _), (((B1.out.ext y2).tchF ht (nf _ (.inl z1))).far (by simp; omega) _), Below.setCell ((X.out.trans y2).tchF ht (fun i hi => by have := F5.out i hi; omega)) (by simp <;> omega) _⟩
                rcases hs i hi with h | h
                · exact F5.out i h
                · have h7 : i = wr.heap.size + 1 := by rw [h]; simp [World.drew]
                  exact ⟨by omega, by omega, fun hm => by have := P2.out.lt i hm; omega⟩
              case measure => simp [intOf]; omega
          · have ek : lc = k := by omega
            subst ek
            have FR : Hid (kM.fr wr w1.heap.size wr.heap.size (.agg #[.slice A5 n c5, .slice A6 n' c6]) (addN d.1 gs lg, addN d.2 cs lc)) :=
              kM.mk (d := (addN d.1 gs lg, addN d.2 cs lc)) P2.out P1.out (by show n = (addN d.1 gs lg).length; rw [addN_len, hn.out]) (by show n' = (addN d.2 cs lc).length; rw [addN_len, hn'.out]) (fun i hi => ⟨(F6.out i hi).1, P2.out.lt i hi⟩) (fun i hi => ⟨(F5.out i hi).1, P1.out.lt i hi⟩) (fun i hi hm => (F5.out i hm).2.2 hi)
            have okS : kM.ok (addN d.1 gs lg, addN d.2 cs lc) := by have h8 := OK.out; rw [hlg.out, hlc.out] at h8; exact h8
            have OKS := hide okS
            have cB := B2.out.cell
            clear P1 P2 F5 F6 F3 okS OK R9
            go_wp2_with fail
            refine (i.asMarks_any wr _ _ (kM.fr_rd FR.out) OKS.out).mono ?_
            rintro e w5 ⟨v5, rfl, hv1, hv2, x5⟩
            replace FR := hide (kM.fr_ext FR.out x5)
            have z6 := x5.size
            replace X := hide (X.out.trans x5)
            replace B1 := hide (B1.out.ext x5)
            have HV1 := hide hv1
            have HV2 := hide hv2
            clear x5 hv1 hv2 cB B2 HR
            have c1_ := B1.out.cell; have f1_ := B1.out.free
            cases hb : marksB (addN d.1 gs lg, addN d.2 cs lc)
            · have e5 := HV2.out hb
              have hf : Hid (F = (([], []), false)) := by show _ = _; rw [HF.out]; simp [ifMarks, hb]
              clear hb
              subst e5
              clear HV1 HV2
              unfold noMarks
              go_wp2
              refine bodyPost_ret (v := .tuple #[noMarks, .bool false]) (by simp [results, Tryz.results12, go_sem, c1_, noMarks]) rfl ?_
              rw [hf.out]
              exact ⟨noMarks, rfl, kM.fr_nil _ _ _, kM.ok_nil, Below.setCell (Below.setCell X.out (by simp) _) (by simp) _⟩
            · have e5 := HV1.out hb
              have hf : Hid (F = ((addN d.1 gs lg, addN d.2 cs lc), true)) := by show _ = _; rw [HF.out]; simp [ifMarks, hb]
              clear hb
              subst e5
              clear HV1 HV2
              go_wp2
              refine bodyPost_ret (v := .tuple #[.agg #[.slice A5 n c5, .slice A6 n' c6], .bool true]) (by simp [results, Tryz.results12, go_sem, c1_]) rfl ?_
              rw [hf.out]
              refine ⟨_, rfl, kM.fr_mono (kM.fr_far (kM.fr_far FR.out _ (by simp; omega) _) _ (by simp; omega) _) (by omega) ?_, OKS.out, Below.setCell (Below.setCell X.out (by simp) _) (by simp) _⟩
              simp
              omega
  · have hf : Hid (F = (([], []), false)) := by
      show _ = _
      rw [← hF.out]
      unfold addJudgeF
      rw [if_neg]
      rw [hlg.out, hlc.out, hn.out]
      simp only [Bool.and_eq_true, decide_eq_true_eq]
      rintro ⟨⟨a, b⟩, c⟩
      exact hall ⟨a, b, c⟩
    cases hm : marksB d
    · clear hm hall
      go_wp2
      refine bodyPost_ret (v := .tuple #[noMarks, .bool false]) (by simp [results, Tryz.results12, go_sem, c1_, noMarks]) rfl ?_
      rw [hf.out]
      exact ⟨noMarks, rfl, kM.fr_nil _ _ _, kM.ok_nil, Below.setCell (Below.setCell X.out (by simp) _) (by simp) _⟩
    · by_cases hg : lg = n
      · have b1 : ((lg : Int) != n) = false := by simp [hg]
        have b2 : ((lc : Int) != 3) = true := by
          rw [bne_iff_ne]
          intro h8
          exact hall ⟨hm, hg, by omega⟩
        have hge : lg ≤ n ∧ n ≤ lg := by omega
        clear hm hall hg
        go_wp2
        refine bodyPost_ret (v := .tuple #[noMarks, .bool false]) (by simp [results, Tryz.results12, go_sem, c1_, noMarks]) rfl ?_
        rw [hf.out]
        exact ⟨noMarks, rfl, kM.fr_nil _ _ _, kM.ok_nil, Below.setCell (Below.setCell X.out (by simp) _) (by simp) _⟩
      · have b1 : ((lg : Int) != n) = true := by
          rw [bne_iff_ne]
          intro h8
          exact hg (by omega)
        clear hm hall hg
        go_wp2
        refine bodyPost_ret (v := .tuple #[noMarks, .bool false]) (by simp [results, Tryz.results12, go_sem, c1_, noMarks]) rfl ?_
        rw [hf.out]
        exact ⟨noMarks, rfl, kM.fr_nil _ _ _, kM.ok_nil, Below.setCell (Below.setCell X.out (by simp) _) (by simp) _⟩
end Go.Proofs.YtnokilofcdbjhaaGreatDoor
