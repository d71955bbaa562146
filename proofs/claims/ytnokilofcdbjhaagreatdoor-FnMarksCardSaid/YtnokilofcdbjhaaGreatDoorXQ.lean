/- The text of marks read by the program. -/
import Derived.Test.YtnokilofcdbjhaaGreatDoorXP
namespace Go.Proofs.YtnokilofcdbjhaaGreatDoor
open Go.RowKit Go.Sort
set_option linter.unusedVariables false

theorem small_nil : SmallR [] := fun _ h => absurd h (by simp)
theorem strsX_length (ys : List (List UInt8)) : (strsX ys).length = ys.length := by simp [strsX]
theorem piece_le (b : UInt8) (l : List UInt8) : ∀ y ∈ splitX b l, y.length ≤ l.length := by
  induction l with
  | nil => simp [splitX]
  | cons c r ih =>
    intro y hy
    unfold splitX at hy
    split at hy
    · rcases List.mem_cons.1 hy with rfl | hy
      · simp
      · have := ih y hy; simp; omega
    · cases hs : splitX b r with
      | nil => exact absurd hs (splitX_ne _ _)
      | cons z u =>
        rw [hs] at hy ih
        rcases List.mem_cons.1 hy with rfl | hy
        · have := ih z (by simp); simp; omega
        · have := ih y (by simp [hy]); simp; omega
theorem row_src5 (w : World) (u : Value) (t : TypeId) : ∀ j v, [u][j]? = some v → (w.alloc (.cells #[u] t)).cell? ⟨w.heap.size, 0 + j, none⟩ = some v := by
  intro j v h
  cases j with
  | zero => simp at h; subst h; simp [World.cell?_alloc_at]
  | succ j => simp at h
set_option maxRecDepth 1000000 in
theorem tail_run (h tn : Nat) : ∃ o, (∀ w : World, (Instr.slice 73 (.slice (some ⟨h, 0, none⟩) (tn + 1) (tn + 1)) (some (.int .i64 1)) none none).run Tryz.prog w = .ok (.slice (some ⟨h, o, none⟩) tn tn) w) ∧ (0 < tn → o = 1) := by
  have hu : Tryz.prog.underlying 73 = some (.slice (Tryz.prog.elem 73)) := by kernel_rfl
  have he : ∀ w : World, (sizeOf (Tryz.prog.elem 73)).run Tryz.prog w = .ok 1 w := Tryz.sizeOf9
  rcases Nat.eq_zero_or_pos tn with e | e
  · subst e
    refine ⟨0, fun w => ?_, fun h => absurd h (by omega)⟩
    rw [run_slice_l w _ _ _ _ hu .i64 1 (by omega) (by omega), he]
    simp [Result.andThen, sliced]
  · refine ⟨1, fun w => ?_, fun _ => rfl⟩
    rw [run_slice_l w _ _ _ _ hu .i64 1 (by omega) (by omega), he]
    simp [Result.andThen, sliced, Addr.add]
    omega
def ParsePost (w : World) (s : List UInt8) (e : Ending) (w' : World) : Prop := ∃ v, e = .returned (.tuple #[v, .bool (parseF s).2]) ∧ kM.fr w' w.heap.size w'.heap.size v (parseF s).1 ∧ kM.ok (parseF s).1 ∧ Ext w w'
theorem parse_fail {w wr : World} {s : List UInt8} {g : Nat} (hp : parseF s = (([], []), false)) (hx : Ext w wr) (hg : w.heap.size ≤ g) (u v : Value) : ParsePost w s (.returned (.tuple #[noMarks, .bool false])) ((wr.setCell ⟨g, 0, none⟩ u).setCell ⟨g, 1, none⟩ v) :=
  ⟨noMarks, by rw [hp], by rw [hp]; exact kM.fr_nil _ _ _, by rw [hp]; exact kM.ok_nil, Below.setCell (Below.setCell hx hg _) hg _⟩
theorem MaxLenIs.ext {w w' : World} (h : MaxLenIs w) (x : Ext w w') : MaxLenIs w' := by
  obtain ⟨m, hm⟩ := h
  exact ⟨m, (Below.cell (p := ⟨0, 0, none⟩) x (World.block_lt_of_cell? w _ hm)).trans hm⟩
section
variable {w0 w w' : World} {g2 g6 : Nat} {A1 A2 : Option Addr} {c1 c2 : Nat} {gs cs : List (List Int)} {f1 f2 : List Nat}
/-- The end: what is under way, handed back. -/
theorem MkU.fin {u0 u1 : Value} (h : MkU w0 w g2 g6 A1 c1 gs f1 A2 c2 cs f2) : kM.fr ((w.setCell ⟨g2, 0, none⟩ u0).setCell ⟨g2, 1, none⟩ u1) w0.heap.size ((w.setCell ⟨g2, 0, none⟩ u0).setCell ⟨g2, 1, none⟩ u1).heap.size (.agg #[.slice A1 gs.length c1, .slice A2 cs.length c2]) (gs, cs) := by
  have far : ∀ i, i ≠ g2 → ((w.setCell ⟨g2, 0, none⟩ u0).setCell ⟨g2, 1, none⟩ u1).heap[i]? = w.heap[i]? := fun i hi => (Below.heap_setCell _ _ _ _ hi).trans (Below.heap_setCell _ _ _ _ hi)
  have l1 := h.l1.keep fun i hi => far i (h.h1 i hi).2.1
  have l2 := h.l2.keep fun i hi => far i (h.h2 i hi).2.1
  exact kM.mk (d := (gs, cs)) l1 l2 rfl rfl (fun i hi => ⟨(h.h1 i hi).1, l1.lt i hi⟩) (fun i hi => ⟨(h.h2 i hi).1, l2.lt i hi⟩) (fun i hi => (h.h1 i hi).2.2.2)
end

set_option maxRecDepth 100000 in
set_option maxHeartbeats 4000000 in
theorem i.ParseMarks_m (s : List UInt8) (w : World) (hl : s.length ≤ 1048576) (hm : MaxLenIs w) : Calls Tryz.prog 15 #[.string (bs s)] w fun e w' => ParsePost w s e w' := by
  obtain ⟨W1, hW1⟩ : ∃ W1, Hid (W1 = w.alloc (.cells #[.slice none 0 0, .slice none 0 0] 25)) := ⟨_, rfl⟩
  have X1 : Hid (Ext w W1) := by rw [hW1.out]; exact Ext.alloc _ _
  obtain ⟨g2, hg2⟩ : ∃ g, Hid (w.heap.size = g) := ⟨_, rfl⟩
  have B2 : Hid (Blk W1 g2 #[.slice none 0 0, .slice none 0 0] 25) := by rw [hW1.out]; exact Blk.new hg2.out _ _
  have gw : w.heap.size ≤ g2 := by have := hg2.out; omega
  have HM := hide hm
  clear hm
  go_enter Tryz.func15, Tryz.ntmps15
  go_wp2_with fail
  rw [← hW1.out, hg2.out]
  clear hW1 hg2
  refine (i.linesOf_m s W1 hl (HM.out.ext X1.out)).mono ?_
  obtain ⟨L, hL⟩ : ∃ L, Hid (linesF s = L) := ⟨_, rfl⟩
  rw [hL.out]
  cases L with
  | none =>
    rintro e w2 ⟨rfl, x2⟩
    have c2 := (B2.out.ext x2).cell; have f2 := (B2.out.ext x2).free
    have PF := hide (parse_fail (u := .slice none 0 0) (v := .slice none 0 0) (linesF_none hL.out) (X1.out.trans x2) gw)
    clear x2
    go_wp2
    refine bodyPost_ret (v := .tuple #[noMarks, .bool false]) (by simp [results, Tryz.results15, go_sem, c2, noMarks]) rfl ?_
    exact PF.out
  | some ls =>
    rintro e w2 ⟨A, rfl, sl, x2⟩
    have SL := hide sl
    have B3 := hide (B2.out.ext x2)
    have X2 := hide (X1.out.trans x2)
    clear sl x2 X1 B2
    obtain ⟨n, hn⟩ : ∃ n, Hid (ls.length = n) := ⟨_, rfl⟩
    rw [hn.out] at SL ⊢
    by_cases hb : n < 3 ∨ 17 < n
    · have IN : Hid (inB 3 17 (n : Int) = false) := by show _ = _; simp only [inB, Bool.and_eq_false_iff, decide_eq_false_iff_not]; omega
      have c2 := B3.out.cell; have f2 := B3.out.free
      have PF := hide (parse_fail (u := .slice none 0 0) (v := .slice none 0 0) (lines_bad hL.out (by rw [hn.out]; exact hb)) X2.out gw)
      go_wp2_with (go_at_call 46; refine (i.within_any _ _ _ _).mono ?_; rintro e w3 ⟨rfl, rfl⟩; rw [IN.out])
      refine bodyPost_ret (v := .tuple #[noMarks, .bool false]) (by simp [results, Tryz.results15, go_sem, c2, noMarks]) rfl ?_
      exact PF.out
    · have IN : Hid (inB 3 17 (n : Int) = true) := by show _ = _; simp only [inB, Bool.and_eq_true, decide_eq_true_eq]; omega
      have n3 : 3 ≤ n := by omega
      have n17 : n ≤ 17 := by omega
      obtain ⟨W3, hW3⟩ : ∃ W3, Hid (W3 = ((w2.alloc (.cells #[] 31)).alloc (.cells #[] 31)).alloc (.cells #[.slice (some ⟨w2.heap.size, 0, none⟩) 0 0, .slice (some ⟨w2.heap.size + 1, 0, none⟩) 0 0] 25)) := ⟨_, rfl⟩
      have XA : Ext w2 W3 := by rw [hW3.out]; exact ((Ext.alloc _ _).trans (Ext.alloc _ _)).trans (Ext.alloc _ _)
      have lB := B3.out.lt
      have M0 : Hid (MkU w2 W3 g2 (w2.heap.size + 1 + 1) (some ⟨w2.heap.size, 0, none⟩) 0 [] [w2.heap.size] (some ⟨w2.heap.size + 1, 0, none⟩) 0 [] [w2.heap.size + 1]) := by
        have sz := X2.out.size
        refine ⟨XA, B3.out.ext XA, by rw [hW3.out]; exact Blk.new (by simp) _ _, ?_, ?_, by simp; omega, by simp; omega, by omega, by omega⟩
        · rw [hW3.out]; exact ((LO.empty_ w2).ext (Ext.alloc _ _)).ext (Ext.alloc _ _)
        · rw [hW3.out]
          have := (LO.empty_ (w2.alloc (.cells #[] 31))).ext (Ext.alloc _ (.cells #[.slice (some ⟨w2.heap.size, 0, none⟩) 0 0, .slice (some ⟨w2.heap.size + 1, 0, none⟩) 0 0] 25))
          simpa using this
      clear XA B3 hb
      go_wp2_with (first | (go_at_call 46; refine (i.within_any _ _ _ _).mono ?_; rintro e w3 ⟨rfl, rfl⟩; rw [IN.out]) | fail)
      rw [← hW3.out]
      generalize w2.heap.size + 1 + 1 = g6 at *
      generalize w2.heap.size + 1 = h1 at *
      generalize hh0 : w2.heap.size = h0 at M0 lB ⊢
      clear hW3 IN hh0
      go_loopw [31] (fun s31 wr => ∃ (k : Nat) (A1 : Option Addr) (c1 : Nat) (gs : List (List Int)) (f1 : List Nat) (A2 : Option Addr) (c2 : Nat) (cs : List (List Int)) (f2 : List Nat), k ≤ n ∧ s31 = .int .i64 k ∧ MkU w2 wr g2 g6 A1 c1 gs f1 A2 c2 cs f2 ∧ ls.take k = gs.map (lineX 103) ++ cs.map (lineX 99) ∧ gs.length = min k (n - 3) ∧ SmallR gs ∧ SmallR cs) (fun s31 _ => n - (intOf s31).toNat)
      case atStart => exact ⟨0, _, _, _, _, _, _, _, _, Nat.zero_le _, by go_num, M0.out, rfl, by simp, small_nil, small_nil⟩
      case round =>
        clear M0 lB
        obtain ⟨k, A1, c1, gs, f1, A2, c2, cs, f2, hk, rfl, mu, hlin, hgl, sg, sc⟩ := hrel
        have MU := hide mu
        have LIN := hide hlin
        have GL := hide hgl
        have SG := hide sg
        have SC := hide sc
        clear mu hlin hgl sg sc
        by_cases hlt : k < n
        · obtain ⟨x, hxk⟩ : ∃ x, Hid (ls[k]? = some x) := ⟨_, List.getElem?_eq_getElem (by rw [hn.out]; exact hlt)⟩
          have hxs := lines_le (linesF_some hL.out) (List.mem_of_getElem? hxk.out)
          obtain ⟨b, off, rfl, hb, q1⟩ := Sl.at_ (SL.out.below MU.out.x) hxk.out
          have iz : (k : Int) < (n : Int) := by omega
          obtain ⟨m, hm⟩ := HM.out.ext (X2.out.trans MU.out.x)
          have SP := hide (i.split_m x 32 m wr (by omega) hm)
          have SPN := hide (splitX_not 32 x)
          obtain ⟨ws, hws⟩ : ∃ ws, Hid (splitX 32 x = ws) := ⟨_, rfl⟩
          rw [hws.out] at SP
          cases ws with
          | nil => exact absurd hws.out (splitX_ne _ _)
          | cons hd t =>
          have tl : t.length ≤ 1048576 := by have := splitX_count 32 x; rw [hws.out] at this; have h2 := List.count_le_length (a := 32) (l := x); simp at this; omega
          clear hm SPN
          go_wp2_with fail
          refine SP.out.mono ?_
          rintro e w4 ⟨rfl, rfl⟩
          obtain ⟨W4, hW4⟩ : ∃ W4, Hid (W4 = wr.alloc (.cells (strsX (hd :: t)).toArray 9)) := ⟨_, rfl⟩
          have X4 : Hid (Ext wr W4) := by rw [hW4.out]; exact Ext.alloc _ _
          have q4 : W4.cell? ⟨wr.heap.size, 0, none⟩ = some (.string (bs hd)) := by rw [hW4.out, World.cell?_alloc_at _ _ _ _ rfl]; rfl
          rw [← hW4.out]
          obtain ⟨tn, htn⟩ : ∃ tn, Hid (t.length = tn) := ⟨_, rfl⟩
          rw [htn.out] at tl
          obtain ⟨o, hsl, ho⟩ := tail_run wr.heap.size tn
          have ST : Hid (Sl W4 W4.heap.size (some ⟨wr.heap.size, o, none⟩) tn (strsX t)) := by
            refine ⟨by rw [strsX_length, htn.out], fun h => ⟨wr.heap.size, o, rfl, by rw [hW4.out]; simp, fun j u hu => ?_⟩⟩
            rw [ho h, hW4.out, World.cell?_alloc_at _ _ _ _ rfl, Nat.add_comm]
            simpa [strsX] using hu
          have tx : ∀ y ∈ t, y.length ≤ 1048576 := fun y hy => by
            have := piece_le 32 x y (by rw [hws.out]; simp [hy])
            omega
          have IN := hide (i.integersIn_m W4 _ tn tn W4.heap.size t ST.out (Nat.le_refl _) (by omega) (Nat.le_refl _) (by omega) tx)
          rw [List.length_cons, htn.out]
          go_wp2_with fail
          refine IN.out.mono ?_
          obtain ⟨m9, hm9⟩ : ∃ m, Hid (listI t = m) := ⟨_, rfl⟩
          rw [hm9.out]
          cases m9 with
          | none =>
            rintro e w5 ⟨rfl, x5⟩
            have M5 := hide (MU.out.ext (X4.out.trans x5))
            have d2 := M5.out.b2.cell; have e2 := M5.out.b2.free
            have PF := hide (parse_fail (u := .slice none 0 0) (v := .slice none 0 0) (line_bad hL.out hxk.out hws.out (.inl hm9.out)) (X2.out.trans M5.out.x) gw)
            clear x5 hsl
            go_wp2
            refine bodyPost_ret (v := .tuple #[noMarks, .bool false]) (by simp [results, Tryz.results15, go_sem, d2, noMarks]) rfl ?_
            exact PF.out
          | some zs =>
            rintro e w5 ⟨A', c', rfl, o5, x5⟩
            have O5 := hide o5
            have X5 := hide (X4.out.trans x5)
            have M5 := hide (MU.out.ext X5.out)
            have q5 := (Below.cell (p := ⟨wr.heap.size, 0, none⟩) x5 (by rw [hW4.out]; simp)).trans q4
            clear x5 o5 hsl q4
            have gn : gs.length ≤ 17 := by have := GL.out; omega
            have cn : cs.length ≤ 17 := by
              have := congrArg List.length LIN.out
              rw [List.length_take, List.length_append, List.length_map, List.length_map] at this
              omega
            have TK : Hid (ls.take (k + 1) = gs.map (lineX 103) ++ cs.map (lineX 99) ++ [x]) := by
              show _ = _
              rw [List.take_add_one, hxk.out, LIN.out]; rfl
            have CL : Hid (cs.length = k - min k (n - 3)) := by
              show _ = _
              have := congrArg List.length LIN.out
              rw [List.length_take, List.length_append, List.length_map, List.length_map, hn.out, GL.out] at this
              omega
            by_cases h1 : hd = [103]
            · subst h1
              have e1 : (bs [103]).toList = [103] := emp_bs _
              have e1' : ¬ (bs [103]).toList = [99] := by rw [emp_bs]; decide
              by_cases hk3 : k < n - 3
              · have hk3' : (k : Int) < (n : Int) - 3 := by omega
                have hx2 := line_of hws.out hm9.out
                have LIN2 : Hid (ls.take (k + 1) = (gs ++ [zs]).map (lineX 103) ++ cs.map (lineX 99)) := by
                  show _ = _
                  have c0 : cs = [] := List.eq_nil_of_length_eq_zero (by have := CL.out; omega)
                  rw [TK.out, c0, hx2]
                  simp
                have GL2 : Hid ((gs ++ [zs]).length = min (k + 1) (n - 3)) := by show _ = _; rw [List.length_append, GL.out, List.length_singleton]; omega
                have SG2 : Hid (SmallR (gs ++ [zs])) := fun r hr => by
                  rcases List.mem_append.1 hr with h | h
                  · exact SG.out r h
                  · rw [List.mem_singleton.1 h]; exact listI_small hm9.out
                clear hx2
                have d6 := M5.out.b6.cell; have e6 := M5.out.b6.free; have b6l := M5.out.b6.lt
                have d2 := M5.out.b2.cell
                obtain ⟨zn, hzn⟩ : ∃ zn, Hid (zs.length = zn) := ⟨_, rfl⟩
                rw [hzn.out] at O5 ⊢
                have HLn : Hid (gs.length = gs.length) := rfl
                have XL : Hid (Ext w5 (w5.alloc (.cells #[.slice A' zn c'] 31))) := Ext.alloc _ _
                have OL : Hid (OwnI 3 (w5.alloc (.cells #[.slice A' zn c'] 31)) W4.heap.size A' zn c' zs) := Own.alloc O5.out _
                have KO := hide (own_row OL.out)
                have LL := hide (M5.out.l1.ext XL.out)
                have D1 : Hid (∀ i ∈ (A'.map (·.block)).toList, i ∉ f1) := fun i hi hm => by
                  have h1 := MU.out.l1.lt i hm
                  have h2 := X4.out.size
                  cases A' with
                  | none => simp at hi
                  | some a => simp at hi; subst hi; have := Own.fromLo O5.out a rfl; omega
                have D2 : Hid (∀ j u, [Value.slice A' zn c'][j]? = some u → (w5.alloc (.cells #[.slice A' zn c'] 31)).cell? ⟨w5.heap.size, 0 + j, none⟩ = some u) := row_src5 w5 _ _
                have b1 : (gs.length + 1) * 24 ≤ 140737488355328 := by omega
                have b2 : gs.length + 1 ≤ 4611686018427387904 := by omega
                go_wp2_with (at_builtin; refine wpList_append_LO (K := kdL) rfl (.tmp 62) (.tmp 64) rfl elemN_row (by decide) rfl rfl rfl LL.out KO.out D1.out D2.out b1 b2 ?_)
                intro A3 c3 w6 f3 hap
                have AP := hide (MU.out.app1 (X5.out.trans XL.out) OL.out X4.out.size hap)
                have d7 := AP.out.1.cell; have e7 := AP.out.1.free; have b7l := AP.out.1.lt
                clear hap d6 e6 d2
                go_wp2
                go_roundw
                case rel => exact ⟨k + 1, _, _, _, _, _, _, _, _, by omega, by go_num, AP.out.2, LIN2.out, GL2.out, SG2.out, SC.out⟩
                case measure => simp [intOf]; omega
              · have hk3' : ¬ (k : Int) < (n : Int) - 3 := by omega
                have d2 := M5.out.b2.cell; have e2 := M5.out.b2.free
                have PF := hide (parse_fail (u := .slice none 0 0) (v := .slice none 0 0) (line_bad hL.out hxk.out hws.out (.inr (.inr (.inl ⟨rfl, by rw [hn.out]; exact hk3⟩)))) (X2.out.trans M5.out.x) gw)
                go_wp2
                refine bodyPost_ret (v := .tuple #[noMarks, .bool false]) (by simp [results, Tryz.results15, go_sem, d2, noMarks]) rfl ?_
                exact PF.out
            · by_cases h2 : hd = [99]
              · subst h2
                have e1 : ¬ (bs [99]).toList = [103] := by rw [emp_bs]; decide
                have e1' : (bs [99]).toList = [99] := emp_bs _
                by_cases hk3 : k < n - 3
                · have hk3' : (k : Int) < (n : Int) - 3 := by omega
                  have d2 := M5.out.b2.cell; have e2 := M5.out.b2.free
                  have PF := hide (parse_fail (u := .slice none 0 0) (v := .slice none 0 0) (line_bad hL.out hxk.out hws.out (.inr (.inr (.inr ⟨rfl, by rw [hn.out]; exact hk3⟩)))) (X2.out.trans M5.out.x) gw)
                  go_wp2
                  refine bodyPost_ret (v := .tuple #[noMarks, .bool false]) (by simp [results, Tryz.results15, go_sem, d2, noMarks]) rfl ?_
                  exact PF.out
                · have hk3' : ¬ (k : Int) < (n : Int) - 3 := by omega
                  have hx2 := line_of hws.out hm9.out
                  have LIN2 : Hid (ls.take (k + 1) = gs.map (lineX 103) ++ (cs ++ [zs]).map (lineX 99)) := by
                    show _ = _
                    rw [TK.out, hx2]
                    simp
                  have GL2 : Hid (gs.length = min (k + 1) (n - 3)) := by show _ = _; rw [GL.out]; omega
                  have SC2 : Hid (SmallR (cs ++ [zs])) := fun r hr => by
                    rcases List.mem_append.1 hr with h | h
                    · exact SC.out r h
                    · rw [List.mem_singleton.1 h]; exact listI_small hm9.out
                  clear hx2
                  have d6 := M5.out.b6.cell; have e6 := M5.out.b6.free; have b6l := M5.out.b6.lt
                  have d2 := M5.out.b2.cell
                  obtain ⟨zn, hzn⟩ : ∃ zn, Hid (zs.length = zn) := ⟨_, rfl⟩
                  rw [hzn.out] at O5 ⊢
                  have HLn : Hid (cs.length = cs.length) := rfl
                  have XL : Hid (Ext w5 (w5.alloc (.cells #[.slice A' zn c'] 31))) := Ext.alloc _ _
                  have OL : Hid (OwnI 3 (w5.alloc (.cells #[.slice A' zn c'] 31)) W4.heap.size A' zn c' zs) := Own.alloc O5.out _
                  have KO := hide (own_row OL.out)
                  have LL := hide (M5.out.l2.ext XL.out)
                  have D1 : Hid (∀ i ∈ (A'.map (·.block)).toList, i ∉ f2) := fun i hi hm => by
                    have h1 := MU.out.l2.lt i hm
                    have h2 := X4.out.size
                    cases A' with
                    | none => simp at hi
                    | some a => simp at hi; subst hi; have := Own.fromLo O5.out a rfl; omega
                  have D2 : Hid (∀ j u, [Value.slice A' zn c'][j]? = some u → (w5.alloc (.cells #[.slice A' zn c'] 31)).cell? ⟨w5.heap.size, 0 + j, none⟩ = some u) := row_src5 w5 _ _
                  have b1 : (cs.length + 1) * 24 ≤ 140737488355328 := by omega
                  have b2 : cs.length + 1 ≤ 4611686018427387904 := by omega
                  go_wp2_with (at_builtin; refine wpList_append_LO (K := kdL) rfl (.tmp 80) (.tmp 82) rfl elemN_row (by decide) rfl rfl rfl LL.out KO.out D1.out D2.out b1 b2 ?_)
                  intro A3 c3 w6 f3 hap
                  have AP := hide (MU.out.app2 (X5.out.trans XL.out) OL.out X4.out.size hap)
                  have d7 := AP.out.1.cell; have e7 := AP.out.1.free; have b7l := AP.out.1.lt
                  clear hap d6 e6 d2
                  go_wp2
                  go_roundw
                  case rel => exact ⟨k + 1, _, _, _, _, _, _, _, _, by omega, by go_num, AP.out.2, LIN2.out, GL2.out, SG.out, SC2.out⟩
                  case measure => simp [intOf]; omega
              · have e1 : ¬ (bs hd).toList = [103] := by rw [emp_bs]; exact h1
                have e1' : ¬ (bs hd).toList = [99] := by rw [emp_bs]; exact h2
                have d2 := M5.out.b2.cell; have e2 := M5.out.b2.free
                have PF := hide (parse_fail (u := .slice none 0 0) (v := .slice none 0 0) (line_bad hL.out hxk.out hws.out (.inr (.inl ⟨h1, h2⟩))) (X2.out.trans M5.out.x) gw)
                go_wp2
                refine bodyPost_ret (v := .tuple #[noMarks, .bool false]) (by simp [results, Tryz.results15, go_sem, d2, noMarks]) rfl ?_
                exact PF.out
        · obtain rfl : k = n := by omega
          have hlx : linesX (gs, cs) = ls := by
            have := LIN.out
            rw [List.take_of_length_le (by rw [hn.out]; exact Nat.le_refl _)] at this
            exact this.symm
          have h3 : cs.length = 3 := by
            have := congrArg List.length hlx
            rw [linesX, List.length_append, List.length_map, List.length_map, hn.out] at this
            have := GL.out
            simp only at *
            omega
          have PE := hide (parse_end hL.out (d := (gs, cs)) hlx h3 ⟨SG.out, SC.out⟩)
          have OK : Hid (kM.ok (gs, cs)) := lines_ok (s := s) (by rw [hlx]; exact linesF_some hL.out) hl
          have AM := hide (i.asMarks_any wr _ (gs, cs) MU.out.rd OK.out)
          have d6 := MU.out.b6.cell
          clear hlx h3
          go_wp2_with fail
          refine AM.out.mono ?_
          rintro e w5 ⟨v', rfl, hv1, hv2, x5⟩
          have M5 := hide (MU.out.ext x5)
          have d2 := M5.out.b2.cell; have e2 := M5.out.b2.free
          clear x5 d6
          cases hmb : marksB (gs, cs)
          · obtain rfl := hv2 hmb
            rw [hmb, if_neg (by simp)] at PE
            have PF := hide (parse_fail (u := .slice none 0 0) (v := .slice none 0 0) PE.out (X2.out.trans M5.out.x) gw)
            clear hv1 hv2 hmb
            unfold noMarks
            go_wp2
            refine bodyPost_ret (v := .tuple #[noMarks, .bool false]) (by simp [results, Tryz.results15, go_sem, d2, noMarks]) rfl ?_
            exact PF.out
          · obtain rfl := hv1 hmb
            rw [hmb, if_pos rfl] at PE
            clear hv1 hv2 hmb
            have FN := hide (fun (u0 u1 : Value) => M5.out.fin (u0 := u0) (u1 := u1))
            have sz := X2.out.size
            obtain ⟨n1, hn1⟩ : ∃ n1, Hid (gs.length = n1) := ⟨_, rfl⟩
            obtain ⟨n2, hn2⟩ : ∃ n2, Hid (cs.length = n2) := ⟨_, rfl⟩
            rw [hn1.out, hn2.out] at FN
            rw [hn1.out, hn2.out]
            go_wp2
            refine bodyPost_ret (v := .tuple #[.agg #[.slice A1 n1 c1, .slice A2 n2 c2], .bool true]) (by simp [results, Tryz.results15, go_sem, d2]) rfl ?_
            exact ⟨_, by rw [PE.out], by rw [PE.out]; exact kM.fr_mono (FN.out _ _) sz (Nat.le_refl _), by rw [PE.out]; exact OK.out, Below.setCell (Below.setCell (X2.out.trans M5.out.x) gw _) gw _⟩
end Go.Proofs.YtnokilofcdbjhaaGreatDoor
