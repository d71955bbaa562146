/- Valid marks drawn: both lists of rows. (Printed by db.py.) -/
import Derived.Test.YtifdpmpconjhmaaDB
namespace Go.Proofs.Ytifdpmpconjhmaa
open Go.RowKit Go.Sort
set_option linter.unusedVariables false

/-- Marks under way: the result's cell, the box of both lists, the lists of the call's own. -/
structure MkSt (w wr : World) (g J : Nat) (Ag : Option Addr) (ng cg : Nat) (xg : List (List Int)) (fg : List Nat) (Ac : Option Addr) (nc cc : Nat) (xc : List (List Int)) (fc : List Nat) : Prop where
  b0 : Blk wr w.heap.size #[.slice none 0 0, .slice none 0 0] 25
  b1 : Blk wr (w.heap.size + 1) #[.slice Ag ng cg, .slice Ac nc cc] 25
  og : LO kdL 36 wr Ag cg xg fg
  oc : LO kdL 36 wr Ac cc xc fc
  lg : xg.length = ng
  lc : xc.length = nc
  rg : ∀ x ∈ xg, x.length = J
  rc : ∀ x ∈ xc, x.length = J
  bg : ∀ i ∈ fg, w.heap.size + 1 < i
  bc : ∀ i ∈ fc, w.heap.size + 1 < i
  dj : ∀ i ∈ fg, i ∉ fc
  tch : TchF [g] w wr
section
variable {w wr w2 : World} {g J : Nat} {Ag : Option Addr} {ng cg : Nat} {xg : List (List Int)} {fg : List Nat} {Ac : Option Addr} {nc cc : Nat} {xc : List (List Int)} {fc : List Nat}
theorem MkSt.keep {fp : List Nat} (h : MkSt w wr g J Ag ng cg xg fg Ac nc cc xc fc) (hg : g < w.heap.size) (k : TchF fp wr w2) (hd : ∀ i ∈ fp, i = g ∨ (w.heap.size + 1 < i ∧ i ∉ fg ∧ i ∉ fc)) : MkSt w w2 g J Ag ng cg xg fg Ac nc cc xc fc where
  b0 := h.b0.tchF k (fun hm => by rcases hd _ hm with e | e <;> omega)
  b1 := h.b1.tchF k (fun hm => by rcases hd _ hm with e | e <;> omega)
  og := h.og.keep fun i hi => k.block i (h.og.lt i hi) (fun hm => by
    rcases hd _ hm with e | e
    · have := h.bg i hi; omega
    · exact e.2.1 hi)
  oc := h.oc.keep fun i hi => k.block i (h.oc.lt i hi) (fun hm => by
    rcases hd _ hm with e | e
    · have := h.bc i hi; omega
    · exact e.2.2 hi)
  lg := h.lg
  lc := h.lc
  rg := h.rg
  rc := h.rc
  bg := h.bg
  bc := h.bc
  dj := h.dj
  tch := h.tch.step k fun i hi => by
    rcases hd i hi with e | e
    · exact .inl e
    · exact .inr (by omega)
theorem MkSt.ext (h : MkSt w wr g J Ag ng cg xg fg Ac nc cc xc fc) (hg : g < w.heap.size) (k : Ext wr w2) : MkSt w w2 g J Ag ng cg xg fg Ac nc cc xc fc := h.keep hg (TchF.of_ext k (fp := [])) (by simp)
theorem MkSt.curs (h : MkSt w wr g J Ag ng cg xg fg Ac nc cc xc fc) (hg : g < w.heap.size) (k : TchF [g] wr w2) : MkSt w w2 g J Ag ng cg xg fg Ac nc cc xc fc := h.keep hg k (fun i hi => .inl (by simpa using hi))
theorem MkSt.lenG (h : MkSt w wr g J Ag ng cg xg fg Ac nc cc xc fc) : lenAt wr (w.heap.size + 1) 0 = ng := lenAt_of (A := Ag) (c := cg) (by have := h.b1.cell 0; simpa using this)
theorem MkSt.lenC (h : MkSt w wr g J Ag ng cg xg fg Ac nc cc xc fc) : lenAt wr (w.heap.size + 1) 1 = nc := lenAt_of (A := Ac) (c := cc) (by have := h.b1.cell 1; simpa using this)
theorem MkSt.pushG {w3 : World} {A3 : Option Addr} {c3 : Nat} {f fp3 : List Nat} {x : List Int} (h : MkSt w wr g J Ag ng cg xg fg Ac nc cc xc fc) (hg : g < w.heap.size) (ha : ApL kdL 36 wr fg f w3 A3 c3 (xg ++ [x]) fp3) (hx : x.length = J) (hf : ∀ i ∈ f, w.heap.size + 1 < i ∧ i ∉ fc) :
    MkSt w (w3.setCell ⟨w.heap.size + 1, 0, none⟩ (.slice A3 (ng + 1) c3)) g J A3 (ng + 1) c3 (xg ++ [x]) fp3 Ac nc cc xc fc := by
  have hs := h.tch.size
  have n3 : ∀ i ∈ fp3, w.heap.size + 1 < i ∧ i ∉ fc := fun i hi => by
    rcases ha.sub i hi with e | e | e
    · exact ⟨h.bg i e, h.dj i e⟩
    · exact hf i e
    · have h1 := h.b1.lt
      exact ⟨by omega, fun hm => by have := h.oc.lt i hm; omega⟩
  have b1 := (h.b1.tchF ha.tch (fun hm => by have := h.bg _ hm; omega)).set 0 (.slice A3 (ng + 1) c3)
  refine ⟨((h.b0.tchF ha.tch (fun hm => by have := h.bg _ hm; omega)).far (by simp) _), b1, ha.own.keep (fun i hi => Below.heap_setCell _ _ _ _ (by have := n3 i hi; simp; omega)), ?_, by simp [h.lg], h.lc, ?_, h.rc, fun i hi => (n3 i hi).1, h.bc, fun i hi => (n3 i hi).2, ?_⟩
  · refine (h.oc.keep fun i hi => ha.tch.block i (h.oc.lt i hi) (fun hm => h.dj i hm hi)).keep (fun i hi => Below.heap_setCell _ _ _ _ (by have := h.bc i hi; simp; omega))
  · intro y hy
    rcases List.mem_append.1 hy with e | e
    · exact h.rg y e
    · simp at e; rw [e]; exact hx
  · exact (h.tch.step ha.tch fun i hi => .inr (by have := h.bg i hi; omega)).step (TchF.put w3 ⟨w.heap.size + 1, 0, none⟩ _ (fp := [w.heap.size + 1]) (by simp)) (fun i hi => .inr (by simp at hi; omega))
theorem MkSt.pushC {w3 : World} {A3 : Option Addr} {c3 : Nat} {f fp3 : List Nat} {x : List Int} (h : MkSt w wr g J Ag ng cg xg fg Ac nc cc xc fc) (hg : g < w.heap.size) (ha : ApL kdL 36 wr fc f w3 A3 c3 (xc ++ [x]) fp3) (hx : x.length = J) (hf : ∀ i ∈ f, w.heap.size + 1 < i ∧ i ∉ fg) :
    MkSt w (w3.setCell ⟨w.heap.size + 1, 1, none⟩ (.slice A3 (nc + 1) c3)) g J Ag ng cg xg fg A3 (nc + 1) c3 (xc ++ [x]) fp3 := by
  have hs := h.tch.size
  have n3 : ∀ i ∈ fp3, w.heap.size + 1 < i ∧ i ∉ fg := fun i hi => by
    rcases ha.sub i hi with e | e | e
    · exact ⟨h.bc i e, fun hm => h.dj i hm e⟩
    · exact hf i e
    · have h1 := h.b1.lt
      exact ⟨by omega, fun hm => by have := h.og.lt i hm; omega⟩
  have b1 := (h.b1.tchF ha.tch (fun hm => by have := h.bc _ hm; omega)).set 1 (.slice A3 (nc + 1) c3)
  refine ⟨((h.b0.tchF ha.tch (fun hm => by have := h.bc _ hm; omega)).far (by simp) _), b1, ?_, ha.own.keep (fun i hi => Below.heap_setCell _ _ _ _ (by have := n3 i hi; simp; omega)), h.lg, by simp [h.lc], h.rg, ?_, h.bg, fun i hi => (n3 i hi).1, fun i hi hm => (n3 i hm).2 hi, ?_⟩
  · refine (h.og.keep fun i hi => ha.tch.block i (h.og.lt i hi) (fun hm => h.dj i hi hm)).keep (fun i hi => Below.heap_setCell _ _ _ _ (by have := h.bg i hi; simp; omega))
  · intro y hy
    rcases List.mem_append.1 hy with e | e
    · exact h.rc y e
    · simp at e; rw [e]; exact hx
  · exact (h.tch.step ha.tch fun i hi => .inr (by have := h.bc i hi; omega)).step (TchF.put w3 ⟨w.heap.size + 1, 1, none⟩ _ (fp := [w.heap.size + 1]) (by simp)) (fun i hi => .inr (by simp at hi; omega))
end
theorem own_tch {e : TypeId} {w w' : World} {lo n c : Nat} {A : Option Addr} {zs : List Int} {fp : List Nat} (h : OwnI e w lo A n c zs) (k : TchF fp w w') (hd : ∀ p, A = some p → p.block ∉ fp) : OwnI e w' lo A n c zs := by
  have hf := OwnI.form h
  refine ⟨h.1, ?_⟩
  rcases h.2 with h | ⟨g, cap, cur, h, h1, h2, r⟩
  · exact .inl h
  · refine .inr ⟨g, cap, cur, h, h1, ?_, r⟩
    simp only [Value.slice.injEq] at h
    rcases hf with ⟨hA, _⟩ | ⟨g', hA, _, hlt, _⟩
    · rw [hA] at h; simp at h
    · rw [hA] at h
      have e : g' = g := by simpa using h.1
      subst e
      rw [k.block g' hlt (hd _ hA), h2]
/-- A row of its own behind an append. -/
theorem row_apd {w w3 : World} {lo j c3 : Nat} {A A3 : Option Addr} {zs : List Int} {y : Int} (ha : Apd 3 w lo A w3 A3 (j + 1) c3 (zs.map (Value.int .i64) ++ [.int .i64 y])) : OwnI 3 w3 lo A3 (j + 1) c3 (zs ++ [y]) :=
  own_conv ha.own (Nat.le_refl _) rfl (by simp)

set_option maxRecDepth 100000 in
set_option maxHeartbeats 4000000 in
theorem cu.marks_m (w : World) (g N n : Nat) (h : Cur w g N) (hN : N ≤ 4611686018420000000) (hn : n ≤ 1000) :
    Calls Try.prog 40 #[.pointer (some ⟨g, 0, none⟩), .int .i64 n] w fun e w' => ∃ v d J, e = .returned v ∧ kM.fr w' w.heap.size w'.heap.size v d ∧ d.1.length = n ∧ d.2.length = 3 ∧ 3 ≤ J ∧ J ≤ 9 ∧ (∀ x ∈ d.1, x.length = J) ∧ (∀ x ∈ d.2, x.length = J) ∧ Cur w' g (N + 20 * n + 100) ∧ TchF [g] w w' := by
  have hg := h.lt
  obtain ⟨W0, hW0⟩ : ∃ W0, Hid (W0 = (w.alloc (.cells #[.slice none 0 0, .slice none 0 0] 25)).alloc (.cells #[.slice none 0 0, .slice none 0 0] 25)) := ⟨_, rfl⟩
  have X0 : Hid (Ext w W0) := by rw [hW0.out]; exact (Ext.alloc w _).trans (Ext.alloc _ _)
  have ST0 : Hid (∀ J, MkSt w W0 g J none 0 0 [] [] none 0 0 [] []) := fun J => ⟨by rw [hW0.out]; exact (Blk.new rfl _ _).alloc _, by rw [hW0.out]; exact Blk.new (by simp) _ _, LO.none_, LO.none_, rfl, rfl, by simp, by simp, by simp, by simp, by simp, TchF.of_ext X0.out⟩
  have C0 := hide (h.ext X0.out)
  have JD := hide (cu.judges_m W0 g N C0.out (by omega))
  have PK := hide (fun (wq : World) (m : Int) (M : Nat) (hq : Cur wq g M) (hM : M ≤ 4611686018427000000) (hm : InR m) => cu.pick_m wq g M m hq hM hm)
  clear h
  go_enter Try.func40, Try.ntmps40
  go_wp2_with fail
  rw [← hW0.out]
  clear hW0
  refine JD.out.mono ?_
  rintro e w1 ⟨J, rfl, J3, J9, c1, k1⟩
  have C1 := hide c1
  have ST1 := hide ((ST0.out J).curs hg k1)
  clear c1 k1 JD ST0 C0 X0
  go_wp2
  go_loopw [7] (fun _ wr => ∃ (k : Nat) (A5 : Option Addr) (c5 : Nat) (xs : List (List Int)) (fp : List Nat), k ≤ n ∧ MkSt w wr g J A5 k c5 xs fp none 0 0 [] [] ∧ Cur wr g (N + 2 + 20 * k)) (fun _ wr => n - lenAt wr (w.heap.size + 1) 0)
  case atStart => exact ⟨0, none, 0, [], [], Nat.zero_le _, ST1.out, C1.out⟩
  case round =>
    obtain ⟨k, A5, c5, xs, fp, hk, st, cur⟩ := hrel
    have ST := hide st
    have CU := hide cur
    have LA := hide st.lenG
    clear st cur
    have q0 := ST.out.b1.cell 0
    have q1 := ST.out.b1.cell 1
    simp only [List.getElem?_toArray, List.getElem?_cons_zero, List.getElem?_cons_succ] at q0 q1
    have HL := hide ST.out.lg
    have sz := ST.out.b1.lt
    by_cases hlt : k < n
    · go_wp2_with fail
      refine (PK.out wr 7 _ CU.out (by omega) (by unfold InR; omega)).mono ?_
      rintro e w1 ⟨r, rfl, r0, r1, -, c1, k1⟩
      have r2 := r1 (by omega)
      have C1 := hide c1
      have ST1 := hide (ST.out.curs hg k1)
      have z1 := k1.size
      clear c1 k1 r1 q0 q1
      go_wp2
      go_loopw [8] (fun l wq => ∃ (j : Nat) (A2 : Option Addr) (c2 : Nat) (zs : List Int), j ≤ J ∧ l = .slice A2 j c2 ∧ OwnI 3 wq (w.heap.size + 2) A2 j c2 zs ∧ (∀ p, A2 = some p → p.block ∉ fp ∧ p.block ∉ []) ∧ MkSt w wq g J A5 k c5 xs fp none 0 0 [] [] ∧ Cur wq g (N + 2 + 20 * k + 2 + 2 * j) ∧ wr.heap.size ≤ wq.heap.size) (fun l _ => J - lenV l)
      case atStart => exact ⟨0, none, 0, [], Nat.zero_le _, rfl, OwnI.nil, (fun p hp => by cases hp), ST1.out, C1.out, z1⟩
      case round =>
        obtain ⟨j, A2, c2, zs, hj, rfl, own, dis, st, cur, zq⟩ := hrel
        have OW := hide own
        have DI := hide dis
        have SQ := hide st
        have CQ := hide cur
        have ca := own.capn
        have cb := own.capm
        clear own dis st cur
        by_cases hjl : j < J
        · go_wp2_with fail
          refine (PK.out wr 4 _ CQ.out (by omega) (by unfold InR; omega)).mono ?_
          rintro e w2 ⟨q, rfl, s0, s1, -, c2', k2⟩
          have s2 := s1 (by omega)
          have C2 := hide c2'
          have S2 := hide (SQ.out.curs hg k2)
          have OW2 := hide (own_tch OW.out k2 (fun p hp => by have := Own.fromLo OW.out p hp; simp; omega))
          have z2 := k2.size
          clear c2' k2 s1
          go_wp2_with fail
          refine (cu.least_m _ _ w2).mono ?_
          rintro e w9 ⟨he, rfl⟩
          obtain ⟨y1, hy1⟩ : ∃ y1, e = .returned (.int .i64 y1) := ⟨_, he⟩
          subst hy1
          clear he
          go_wp2_with fail
          refine (cu.most_m _ _ w9).mono ?_
          rintro e w2 ⟨he, rfl⟩
          obtain ⟨y, hy⟩ : ∃ y, e = .returned (.int .i64 y) := ⟨_, he⟩
          subst hy
          clear he
          go_wp2_with (at_builtin; refine wpList_append_sl rfl (.tmp 26) (.tmp 34) rfl elem_int rfl rfl (Own.alloc OW2.out _) (Sl.one w2 (.int .i64 y) 3) (one_int y) ?c1 ?c2 ?c3 ?_)
          case c1 => omega
          case c2 => omega
          case c3 => have := S2.out.b1.lt; simp; omega
          intro A3 c3 w3 hap
          have S2a := hide (S2.out.ext hg (Ext.alloc w2 (.cells #[.int .i64 y] 3)))
          have fB : ∀ i ∈ (A2.map (·.block)).toList, w.heap.size + 1 < i ∧ i ∉ fp ∧ i ∉ [] := fun i hi => by
            obtain ⟨p, hp, rfl⟩ := mem_of_opt hi
            have h1 := Own.fromLo OW2.out p hp
            exact ⟨by omega, DI.out p hp⟩
          have tg := TchF.of_grown (fp := (A2.map (·.block)).toList) hap.grew (fun p hp => by subst hp; simp)
          have S3 := hide (S2a.out.keep hg tg (fun i hi => .inr (⟨(fB i hi).1, (fB i hi).2.1, (fB i hi).2.2⟩)))
          have C3 := hide ((C2.out.ext (Ext.alloc w2 (.cells #[.int .i64 y] 3))).tchF tg (fun i hi => by have := fB i hi; omega))
          have O3 := hide (row_apd hap)
          have D3 : Hid (∀ p, A3 = some p → p.block ∉ fp ∧ p.block ∉ []) := fun p hp => by
            rcases hap.where_ with e | e
            · rw [hp] at e
              have := fB p.block (by rw [← e]; simp)
              exact this.2
            · rw [hp] at e
              simp at e
              have h1 := S2.out.og.lt
              have h2 := S2.out.oc.lt
              exact ⟨fun hm => by have := h1 _ hm; omega, fun hm => by simp at hm⟩
          have z3 := tg.size
          clear hap tg fB
          go_wp2
          go_roundw
          case rel => exact ⟨j + 1, A3, c3, zs ++ [y], by omega, by go_num, O3.out, D3.out, S3.out, C3.out, by simp at z3; omega⟩
          case measure => simp [lenV]; omega
        · have ej : J = j := by omega
          subst ej
          have LZ : Hid (zs.length = J) := OW.out.len
          have KO := hide (kdL.own_ext (own_row OW.out) (Ext.alloc wr (.cells #[.slice A2 J c2] 36)))
          have SA := hide (SQ.out.ext hg (Ext.alloc wr (.cells #[.slice A2 J c2] 36)))
          have FL : Hid (∀ i ∈ (A2.map (·.block)).toList, w.heap.size + 1 < i ∧ i ∉ fp ∧ i ∉ []) := fun i hi => by
            obtain ⟨p, hp, rfl⟩ := mem_of_opt hi
            have h1 := Own.fromLo OW.out p hp
            exact ⟨by omega, DI.out p hp⟩
          have D1 : Hid (∀ i ∈ (A2.map (·.block)).toList, i ∉ fp) := fun i hi => (FL.out i hi).2.1
          have D2 := hide (row_src wr (.slice A2 J c2) 36)
          have CA := hide (CQ.out.ext (Ext.alloc wr (.cells #[.slice A2 J c2] 36)))
          have q0 := SQ.out.b1.cell 0
          have q1 := SQ.out.b1.cell 1
          simp only [List.getElem?_toArray, List.getElem?_cons_zero, List.getElem?_cons_succ] at q0 q1
          have b1 : (k + 1) * 24 ≤ 140737488355328 := by omega
          have b2 : k + 1 ≤ 4611686018427387904 := by omega
          go_wp2_with (at_builtin; refine wpList_append_LO (K := kdL) rfl (.tmp 37) (.tmp 39) rfl elemN_row (by decide) HL.out.symm rfl rfl SA.out.og KO.out D1.out D2.out b1 b2 ?_)
          intro A4 c4 w4 fp4 hap
          have S4 := hide (SA.out.pushG hg hap LZ.out (fun i hi => ⟨(FL.out i hi).1, (FL.out i hi).2.2⟩))
          have b4 := SA.out.b1.tchF hap.tch (fun hm => by have := SA.out.bg _ hm; omega)
          have f4 := b4.free
          have c4_ := b4.cell 0
          simp only [List.getElem?_toArray, List.getElem?_cons_zero] at c4_
          clear b4
          have C4 := hide ((CA.out.tchF hap.tch (fun i hi => by have := SA.out.bg i hi; omega)).tchF (TchF.put w4 ⟨w.heap.size + 1, 0, none⟩ (.slice A4 (k + 1) c4) (fp := [w.heap.size + 1]) (by simp)) (fun i hi => by simp at hi; omega))
          have L4 := hide S4.out.lenG
          clear hap
          go_wp2
          go_roundw
          case rel => exact ⟨k + 1, A4, c4, xs ++ [zs], fp4, by omega, S4.out, C4.out.more (by omega)⟩
          case measure => rw [LA.out, L4.out]; omega
    · have ek : n = k := by omega
      subst ek
      obtain ⟨Ag, cg, xg, fg, ST1, C1⟩ : ∃ Ag cg xg fg, Hid (MkSt w wr g J Ag n cg xg fg none 0 0 [] []) ∧ Hid (Cur wr g (N + 2 + 20 * n)) := ⟨A5, c5, xs, fp, ST, CU⟩
      clear ST CU LA q0 q1 HL A5 c5 xs fp
      have q0 := ST1.out.b1.cell 0
      have q1 := ST1.out.b1.cell 1
      simp only [List.getElem?_toArray, List.getElem?_cons_zero, List.getElem?_cons_succ] at q0 q1
      go_wp2
      go_loopw [9] (fun _ wr => ∃ (k : Nat) (A5 : Option Addr) (c5 : Nat) (xs : List (List Int)) (fp : List Nat), k ≤ 3 ∧ MkSt w wr g J Ag n cg xg fg A5 k c5 xs fp ∧ Cur wr g (N + 2 + 20 * n + 20 * k)) (fun _ wr => 3 - lenAt wr (w.heap.size + 1) 1)
      case atStart => exact ⟨0, none, 0, [], [], Nat.zero_le _, ST1.out, C1.out⟩
      case round =>
        obtain ⟨k, A5, c5, xs, fp, hk, st, cur⟩ := hrel
        have ST := hide st
        have CU := hide cur
        have LA := hide st.lenC
        clear st cur
        have q0 := ST.out.b1.cell 0
        have q1 := ST.out.b1.cell 1
        simp only [List.getElem?_toArray, List.getElem?_cons_zero, List.getElem?_cons_succ] at q0 q1
        have HL := hide ST.out.lc
        have sz := ST.out.b1.lt
        by_cases hlt : k < 3
        · go_wp2_with fail
          refine (PK.out wr 37 _ CU.out (by omega) (by unfold InR; omega)).mono ?_
          rintro e w1 ⟨r, rfl, r0, r1, -, c1, k1⟩
          have r2 := r1 (by omega)
          have C1 := hide c1
          have ST1 := hide (ST.out.curs hg k1)
          have z1 := k1.size
          clear c1 k1 r1 q0 q1
          go_wp2
          go_loopw [10] (fun l wq => ∃ (j : Nat) (A2 : Option Addr) (c2 : Nat) (zs : List Int), j ≤ J ∧ l = .slice A2 j c2 ∧ OwnI 3 wq (w.heap.size + 2) A2 j c2 zs ∧ (∀ p, A2 = some p → p.block ∉ fp ∧ p.block ∉ fg) ∧ MkSt w wq g J Ag n cg xg fg A5 k c5 xs fp ∧ Cur wq g (N + 2 + 20 * n + 20 * k + 2 + 2 * j) ∧ wr.heap.size ≤ wq.heap.size) (fun l _ => J - lenV l)
          case atStart => exact ⟨0, none, 0, [], Nat.zero_le _, rfl, OwnI.nil, (fun p hp => by cases hp), ST1.out, C1.out, z1⟩
          case round =>
            obtain ⟨j, A2, c2, zs, hj, rfl, own, dis, st, cur, zq⟩ := hrel
            have OW := hide own
            have DI := hide dis
            have SQ := hide st
            have CQ := hide cur
            have ca := own.capn
            have cb := own.capm
            clear own dis st cur
            by_cases hjl : j < J
            · go_wp2_with fail
              refine (PK.out wr 4 _ CQ.out (by omega) (by unfold InR; omega)).mono ?_
              rintro e w2 ⟨q, rfl, s0, s1, -, c2', k2⟩
              have s2 := s1 (by omega)
              have C2 := hide c2'
              have S2 := hide (SQ.out.curs hg k2)
              have OW2 := hide (own_tch OW.out k2 (fun p hp => by have := Own.fromLo OW.out p hp; simp; omega))
              have z2 := k2.size
              clear c2' k2 s1
              obtain ⟨y, hy⟩ : ∃ y, Hid (y = 25 * (r + q)) := ⟨_, rfl⟩
              go_wp2_with (at_builtin; rw [← hy.out]; refine wpList_append_sl rfl (.tmp 52) (.tmp 58) rfl elem_int rfl rfl (Own.alloc OW2.out _) (Sl.one w2 (.int .i64 y) 3) (one_int y) ?c1 ?c2 ?c3 ?_)
              case c1 => omega
              case c2 => omega
              case c3 => have := S2.out.b1.lt; simp; omega
              intro A3 c3 w3 hap
              have S2a := hide (S2.out.ext hg (Ext.alloc w2 (.cells #[.int .i64 y] 3)))
              have fB : ∀ i ∈ (A2.map (·.block)).toList, w.heap.size + 1 < i ∧ i ∉ fp ∧ i ∉ fg := fun i hi => by
                obtain ⟨p, hp, rfl⟩ := mem_of_opt hi
                have h1 := Own.fromLo OW2.out p hp
                exact ⟨by omega, DI.out p hp⟩
              have tg := TchF.of_grown (fp := (A2.map (·.block)).toList) hap.grew (fun p hp => by subst hp; simp)
              have S3 := hide (S2a.out.keep hg tg (fun i hi => .inr (⟨(fB i hi).1, (fB i hi).2.2, (fB i hi).2.1⟩)))
              have C3 := hide ((C2.out.ext (Ext.alloc w2 (.cells #[.int .i64 y] 3))).tchF tg (fun i hi => by have := fB i hi; omega))
              have O3 := hide (row_apd hap)
              have D3 : Hid (∀ p, A3 = some p → p.block ∉ fp ∧ p.block ∉ fg) := fun p hp => by
                rcases hap.where_ with e | e
                · rw [hp] at e
                  have := fB p.block (by rw [← e]; simp)
                  exact this.2
                · rw [hp] at e
                  simp at e
                  have h1 := S2.out.oc.lt
                  have h2 := S2.out.og.lt
                  exact ⟨fun hm => by have := h1 _ hm; omega, fun hm => by have := h2 _ hm; omega⟩
              have z3 := tg.size
              clear hap tg fB
              go_wp2
              go_roundw
              case rel => exact ⟨j + 1, A3, c3, zs ++ [y], by omega, by go_num, O3.out, D3.out, S3.out, C3.out, by simp at z3; omega⟩
              case measure => simp [lenV]; omega
            · have ej : J = j := by omega
              subst ej
              have LZ : Hid (zs.length = J) := OW.out.len
              have KO := hide (kdL.own_ext (own_row OW.out) (Ext.alloc wr (.cells #[.slice A2 J c2] 36)))
              have SA := hide (SQ.out.ext hg (Ext.alloc wr (.cells #[.slice A2 J c2] 36)))
              have FL : Hid (∀ i ∈ (A2.map (·.block)).toList, w.heap.size + 1 < i ∧ i ∉ fp ∧ i ∉ fg) := fun i hi => by
                obtain ⟨p, hp, rfl⟩ := mem_of_opt hi
                have h1 := Own.fromLo OW.out p hp
                exact ⟨by omega, DI.out p hp⟩
              have D1 : Hid (∀ i ∈ (A2.map (·.block)).toList, i ∉ fp) := fun i hi => (FL.out i hi).2.1
              have D2 := hide (row_src wr (.slice A2 J c2) 36)
              have CA := hide (CQ.out.ext (Ext.alloc wr (.cells #[.slice A2 J c2] 36)))
              have q0 := SQ.out.b1.cell 0
              have q1 := SQ.out.b1.cell 1
              simp only [List.getElem?_toArray, List.getElem?_cons_zero, List.getElem?_cons_succ] at q0 q1
              have b1 : (k + 1) * 24 ≤ 140737488355328 := by omega
              have b2 : k + 1 ≤ 4611686018427387904 := by omega
              go_wp2_with (at_builtin; refine wpList_append_LO (K := kdL) rfl (.tmp 61) (.tmp 63) rfl elemN_row (by decide) HL.out.symm rfl rfl SA.out.oc KO.out D1.out D2.out b1 b2 ?_)
              intro A4 c4 w4 fp4 hap
              have S4 := hide (SA.out.pushC hg hap LZ.out (fun i hi => ⟨(FL.out i hi).1, (FL.out i hi).2.2⟩))
              have b4 := SA.out.b1.tchF hap.tch (fun hm => by have := SA.out.bc _ hm; omega)
              have f4 := b4.free
              have c4_ := b4.cell 1
              simp only [List.getElem?_toArray, List.getElem?_cons_zero, List.getElem?_cons_succ] at c4_
              clear b4
              have C4 := hide ((CA.out.tchF hap.tch (fun i hi => by have := SA.out.bc i hi; omega)).tchF (TchF.put w4 ⟨w.heap.size + 1, 1, none⟩ (.slice A4 (k + 1) c4) (fp := [w.heap.size + 1]) (by simp)) (fun i hi => by simp at hi; omega))
              have L4 := hide S4.out.lenC
              clear hap
              go_wp2
              go_roundw
              case rel => exact ⟨k + 1, A4, c4, xs ++ [zs], fp4, by omega, S4.out, C4.out.more (by omega)⟩
              case measure => rw [LA.out, L4.out]; omega
        · have ek : 3 = k := by omega
          subst ek
          have r1 := ST.out.b0.cell; have f1 := ST.out.b0.free
          go_wp2
          refine bodyPost_ret (v := .agg #[.slice Ag n cg, .slice A5 3 c5]) (by simp [results, Try.results40, go_sem, r1]) rfl ?_
          have hk : ∀ i, w.heap.size + 1 < i → ((wr.setCell ⟨w.heap.size, 0, none⟩ (.slice Ag n cg)).setCell ⟨w.heap.size, 1, none⟩ (.slice A5 3 c5)).heap[i]? = wr.heap[i]? := by
            intro i hi
            rw [Below.heap_setCell _ _ _ _ (by simp; omega), Below.heap_setCell _ _ _ _ (by simp; omega)]
          have t2 := (TchF.put wr ⟨w.heap.size, 0, none⟩ (.slice Ag n cg) (fp := [w.heap.size]) (by simp)).trans (TchF.put (wr.setCell ⟨w.heap.size, 0, none⟩ (.slice Ag n cg)) ⟨w.heap.size, 1, none⟩ (.slice A5 3 c5) (fp := [w.heap.size]) (by simp))
          refine ⟨_, (xg, xs), J, rfl, kM.mk (ST.out.og.keep (fun i hi => hk i (ST.out.bg i hi))) (ST.out.oc.keep (fun i hi => hk i (ST.out.bc i hi))) ST.out.lg.symm ST.out.lc.symm (fun i hi => ?_) (fun i hi => ?_) ST.out.dj, ST.out.lg, ST.out.lc, J3, J9, ST.out.rg, ST.out.rc, (CU.out.tchF t2 (fun i hi => by simp at hi; omega)).more (by omega), ST.out.tch.step t2 (fun i hi => .inr (by simp at hi; omega))⟩
          · have h1 := ST.out.bg i hi; have h2 := ST.out.og.lt i hi; simp; omega
          · have h1 := ST.out.bc i hi; have h2 := ST.out.oc.lt i hi; simp; omega
end Go.Proofs.Ytifdpmpconjhmaa
