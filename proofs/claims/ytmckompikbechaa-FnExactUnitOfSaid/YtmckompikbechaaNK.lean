/- Sheets: weighed, copied, compared; as a kind. -/
import Derived.Test.YtmckompikbechaaND
import Derived.Test.YtmckompikbechaaNV
import Derived.Test.YtmckompikbechaaNP
namespace Go.Proofs.Ytmckompikbechaa
open Go.RowKit Go.Sort
set_option linter.unusedVariables false

def kdSh : Kd ShD := kdPair kdItS (kdPair kdLLL kdRvS)
theorem kdSh.open_ {w : World} {B : Nat} {vs : List Value} {d : ShD} (h : kdSh.rd w B vs d) : ∃ A c A' c' D e, vs = [.slice A d.1.length c, .slice A' d.2.1.length c', .slice D d.2.2.length e] ∧ LR kdItem w B A c d.1 ∧ LR kdLL w B A' c' d.2.1 ∧ LR kdRv w B D e d.2.2 := by
  obtain ⟨v1, v2, rfl, ⟨A, c, rfl, h1⟩, v3, v4, rfl, ⟨A', c', rfl, h2⟩, ⟨D, e, rfl, h3⟩⟩ := h
  exact ⟨A, c, A', c', D, e, rfl, h1, h2, h3⟩
theorem kdSh.val3 (a b c : Value) : kdSh.val [a, b, c] = .agg #[a, b, c] := rfl
theorem kdSh.wt_eq (d : ShD) : kdSh.wt d = kdItS.wt d.1 + kdLLL.wt d.2.1 + kdRvS.wt d.2.2 := by
  show kdItS.wt d.1 + (kdLLL.wt d.2.1 + kdRvS.wt d.2.2) = _
  omega

set_option maxHeartbeats 2000000 in
theorem kdSh.sz : SzD Try.prog kdSh 22 := by
  rintro w vs d l h hl0 hl1
  obtain ⟨A, c, A', c', D, e, rfl, h1, h2, h3⟩ := kdSh.open_ h
  have H1 := hide h1
  have H2 := hide h2
  have H3 := hide h3
  clear h h1 h2 h3
  rw [kdSh.val3, kdSh.wt_eq]
  obtain ⟨W1, hW1⟩ : ∃ W1, Hid (kdItS.wt d.1 = W1) := ⟨_, rfl⟩
  obtain ⟨W2, hW2⟩ : ∃ W2, Hid (kdLLL.wt d.2.1 = W2) := ⟨_, rfl⟩
  obtain ⟨W3, hW3⟩ : ∃ W3, Hid (kdRvS.wt d.2.2 = W3) := ⟨_, rfl⟩
  rw [hW1.out, hW2.out, hW3.out]
  obtain ⟨n, hn⟩ : ∃ n, Hid (d.1.length = n) := ⟨_, rfl⟩
  obtain ⟨n', hn'⟩ : ∃ n', Hid (d.2.1.length = n') := ⟨_, rfl⟩
  obtain ⟨m', hm'⟩ : ∃ n', Hid (d.2.2.length = n') := ⟨_, rfl⟩
  rw [hn.out, hn'.out, hm'.out]
  have hx0 := hide (Ext.alloc w (.cells #[.slice A n c, .slice A' n' c', .slice D m' e] 39))
  have B0 := hide (Blk.new (w := w) rfl #[.slice A n c, .slice A' n' c', .slice D m' e] 39)
  obtain ⟨R, hR⟩ : ∃ R, Hid ((if ((W1 + W2 + W3 : Nat) : Int) ≤ l then l - ((W1 + W2 + W3 : Nat) : Int) else -1) = R) := ⟨_, rfl⟩
  rw [hR.out]
  go_enter Try.func22, Try.ntmps22
  go_wp2_with fail
  refine (kdItS.sz _ [.slice A n c] d.1 l ⟨A, c, by rw [hn.out], (H1.out.ext hx0.out (Nat.le_refl _)).more hx0.out.size⟩ hl0 hl1).mono ?_
  rintro e1 w1 ⟨rfl, hx1⟩
  rw [hW1.out]
  replace B0 := hide (B0.out.ext hx1)
  have cB := B0.out.cell
  have X1 := hide (hx0.out.trans hx1)
  clear hx1
  by_cases hle : (W1 : Int) ≤ l
  · rw [if_pos hle]
    generalize hm : l - (W1 : Int) = m
    have hm0 : 0 ≤ m := by omega
    have hm1 : m ≤ 1048576 := by omega
    have HM := hide hm
    clear hm
    go_wp2_with fail
    clear cB
    refine (kdLLL.sz _ [.slice A' n' c'] d.2.1 m ⟨A', c', by rw [hn'.out], (H2.out.ext X1.out (Nat.le_refl _)).more X1.out.size⟩ hm0 hm1).mono ?_
    rintro e1 w2 ⟨rfl, hx2⟩
    rw [hW2.out]
    have X2 := hide (X1.out.trans hx2)
    replace B0 := hide (B0.out.ext hx2)
    have cB := B0.out.cell
    clear hx2
    by_cases hle2 : (W2 : Int) ≤ m
    · rw [if_pos hle2]
      generalize hq : m - (W2 : Int) = q
      have hq0 : 0 ≤ q := by omega
      have hq1 : q ≤ 1048576 := by omega
      have HQ := hide hq
      clear hq
      go_wp2_with fail
      clear cB
      refine (kdRvS.sz _ [.slice D m' e] d.2.2 q ⟨D, e, by rw [hm'.out], (H3.out.ext X2.out (Nat.le_refl _)).more X2.out.size⟩ hq0 hq1).mono ?_
      rintro e1 w3 ⟨rfl, hx3⟩
      rw [hW3.out]
      have X3 := hide (X2.out.trans hx3)
      clear hx3
      by_cases hle3 : (W3 : Int) ≤ q
      · rw [if_pos hle3]
        go_wp2
        go_ret
        exact ⟨ret_int (by rw [← hR.out, if_pos (by have := HM.out; have := HQ.out; omega)]; have := HM.out; have := HQ.out; omega), X3.out⟩
      · rw [if_neg hle3]
        go_wp2
        go_ret
        exact ⟨ret_int (by rw [← hR.out, if_neg (by have := HM.out; have := HQ.out; omega)]), X3.out⟩
    · rw [if_neg hle2]
      go_wp2
      go_ret
      exact ⟨ret_int (by rw [← hR.out, if_neg (by have := HM.out; omega)]), X2.out⟩
  · rw [if_neg hle]
    go_wp2
    go_ret
    exact ⟨ret_int (by rw [← hR.out, if_neg (by omega)]), X1.out⟩

set_option maxHeartbeats 2000000 in
theorem kdSh.eq_ : EqD Try.prog kdSh 17 := by
  rintro w vs vs' d h h' hwt
  obtain ⟨A, c, A', c', A'', c'', rfl, h1, h2, h3⟩ := kdSh.open_ h
  obtain ⟨D, e, D', e', D'', e'', rfl, h4, h5, h6⟩ := kdSh.open_ h'
  have H1 := hide h1
  have H2 := hide h2
  have H3 := hide h3
  have H4 := hide h4
  have H5 := hide h5
  have H6 := hide h6
  rw [kdSh.wt_eq] at hwt
  have hw1 : kdItS.wt d.1 ≤ 1048576 := by omega
  have hw2 : kdLLL.wt d.2.1 ≤ 1048576 := by omega
  have hw3 : kdRvS.wt d.2.2 ≤ 1048576 := by omega
  clear h h1 h2 h' h3 h4 h5 h6 hwt
  rw [kdSh.val3, kdSh.val3]
  obtain ⟨n, hn⟩ : ∃ n, Hid (d.1.length = n) := ⟨_, rfl⟩
  obtain ⟨n', hn'⟩ : ∃ n', Hid (d.2.1.length = n') := ⟨_, rfl⟩
  obtain ⟨m', hm'⟩ : ∃ n', Hid (d.2.2.length = n') := ⟨_, rfl⟩
  rw [hn.out, hn'.out, hm'.out]
  obtain ⟨W0, hW0⟩ : ∃ W0, Hid (W0 = (w.alloc (.cells #[.slice A n c, .slice A' n' c', .slice A'' m' c''] 28)).alloc (.cells #[.slice D n e, .slice D' n' e', .slice D'' m' e''] 28)) := ⟨_, rfl⟩
  have X0 : Hid (Ext w W0) := by rw [hW0.out]; exact (Ext.alloc w _).trans (Ext.alloc _ _)
  have B1 := hide (show Blk W0 w.heap.size #[.slice A n c, .slice A' n' c', .slice A'' m' c''] 28 by rw [hW0.out]; exact (Blk.new rfl _ _).alloc _)
  have B2 := hide (show Blk W0 (w.heap.size + 1) #[.slice D n e, .slice D' n' e', .slice D'' m' e''] 28 by rw [hW0.out]; exact Blk.new (by simp) _ _)
  go_enter Try.func17, Try.ntmps17
  go_wp2_with fail
  rw [← hW0.out]
  refine (kdItS.eq_ _ [.slice A n c] [.slice D n e] d.1 ⟨A, c, by rw [hn.out], (H1.out.ext X0.out (Nat.le_refl _)).more X0.out.size⟩ ⟨D, e, by rw [hn.out], (H4.out.ext X0.out (Nat.le_refl _)).more X0.out.size⟩ hw1).mono ?_
  rintro e1 w1 ⟨rfl, hx1⟩
  replace B1 := hide (B1.out.ext hx1)
  replace B2 := hide (B2.out.ext hx1)
  have c1_ := B1.out.cell; have c2_ := B2.out.cell
  have X1 := hide (X0.out.trans hx1)
  clear hx1
  go_wp2_with fail
  clear c1_ c2_
  refine (kdLLL.eq_ _ [.slice A' n' c'] [.slice D' n' e'] d.2.1 ⟨A', c', by rw [hn'.out], (H2.out.ext X1.out (Nat.le_refl _)).more X1.out.size⟩ ⟨D', e', by rw [hn'.out], (H5.out.ext X1.out (Nat.le_refl _)).more X1.out.size⟩ hw2).mono ?_
  rintro e1 w2 ⟨rfl, hx2⟩
  replace B1 := hide (B1.out.ext hx2)
  replace B2 := hide (B2.out.ext hx2)
  have c1_ := B1.out.cell; have c2_ := B2.out.cell
  have X2 := hide (X1.out.trans hx2)
  clear hx2
  go_wp2_with fail
  clear c1_ c2_
  refine (kdRvS.eq_ _ [.slice A'' m' c''] [.slice D'' m' e''] d.2.2 ⟨A'', c'', by rw [hm'.out], (H3.out.ext X2.out (Nat.le_refl _)).more X2.out.size⟩ ⟨D'', e'', by rw [hm'.out], (H6.out.ext X2.out (Nat.le_refl _)).more X2.out.size⟩ hw3).mono ?_
  rintro e1 w3 ⟨rfl, hx3⟩
  have X3 := hide (X2.out.trans hx3)
  clear hx3
  go_wp2
  go_ret
  exact ⟨rfl, X3.out⟩

set_option maxHeartbeats 2000000 in
theorem kdSh.to_ : ToD Try.prog kdSh 24 := by
  rintro w vs d h hwt
  obtain ⟨A, c, A', c', A'', c'', rfl, h1, h2, h3⟩ := kdSh.open_ h
  have H1 := hide h1
  have H2 := hide h2
  have H3 := hide h3
  rw [kdSh.wt_eq] at hwt
  have hw1 : kdItS.wt d.1 ≤ 1048576 := by omega
  have hw2 : kdLLL.wt d.2.1 ≤ 1048576 := by omega
  have hw3 : kdRvS.wt d.2.2 ≤ 1048576 := by omega
  clear h h1 h2 h3 hwt
  rw [kdSh.val3]
  obtain ⟨n, hn⟩ : ∃ n, Hid (d.1.length = n) := ⟨_, rfl⟩
  obtain ⟨n', hn'⟩ : ∃ n', Hid (d.2.1.length = n') := ⟨_, rfl⟩
  obtain ⟨m', hm'⟩ : ∃ n', Hid (d.2.2.length = n') := ⟨_, rfl⟩
  rw [hn.out, hn'.out, hm'.out]
  obtain ⟨W0, hW0⟩ : ∃ W0, Hid (W0 = ((w.alloc (.cells #[.slice A n c, .slice A' n' c', .slice A'' m' c''] 39)).alloc (.cells #[.slice none 0 0, .slice none 0 0, .slice none 0 0] 28)).alloc (.cells #[.slice none 0 0, .slice none 0 0, .slice none 0 0] 28)) := ⟨_, rfl⟩
  have X0 : Hid (Ext w W0) := by rw [hW0.out]; exact ((Ext.alloc w _).trans (Ext.alloc _ _)).trans (Ext.alloc _ _)
  have B1 : Hid (Blk W0 w.heap.size #[.slice A n c, .slice A' n' c', .slice A'' m' c''] 39) := by rw [hW0.out]; exact ((Blk.new rfl _ _).alloc _).alloc _
  have B2 : Hid (Blk W0 (w.heap.size + 1) #[.slice none 0 0, .slice none 0 0, .slice none 0 0] 28) := by rw [hW0.out]; exact (Blk.new (by simp) _ _).alloc _
  have B3 : Hid (Blk W0 (w.heap.size + 1 + 1) #[.slice none 0 0, .slice none 0 0, .slice none 0 0] 28) := by rw [hW0.out]; exact Blk.new (by simp) _ _
  have S0 : w.heap.size + 1 + 1 < W0.heap.size := B3.out.lt
  go_enter Try.func24, Try.ntmps24
  go_wp2_with fail
  rw [← hW0.out]
  refine (kdItS.to_ _ [.slice A n c] d.1 ⟨A, c, by rw [hn.out], (H1.out.ext X0.out (Nat.le_refl _)).more X0.out.size⟩ hw1).mono ?_
  rintro e1 w1 ⟨vs1, fp1, rfl, ho1, hf1, hx1⟩
  obtain ⟨A1, c1, rfl, hl1⟩ := ho1
  rw [show kdItS.val [Value.slice A1 d.1.length c1] = .slice A1 d.1.length c1 from rfl, hn.out]
  replace B1 := hide (B1.out.ext hx1)
  replace B2 := hide (B2.out.ext hx1)
  replace B3 := hide (B3.out.ext hx1)
  have X1 := hide (X0.out.trans hx1)
  have z1 := hx1.size
  have HL1 := hide hl1
  have HF1 := hide hf1
  clear hx1 hl1 hf1 hW0
  have c1_ := B1.out.cell; have c3_ := B3.out.cell; have f3_ := B3.out.free
  go_wp2_with fail
  generalize hW1 : w1.setCell ⟨w.heap.size + 1 + 1, 0, none⟩ (.slice A1 n c1) = W1
  have z1' : w1.heap.size = W1.heap.size := by rw [← hW1]; simp
  have Z1 := hide z1'
  clear z1'
  replace X1 : Hid (Ext w W1) := by rw [← hW1]; exact Below.setCell X1.out (by simp <;> omega) _
  replace HL1 : Hid (LO kdItem 70 W1 A1 c1 d.1 fp1) := by rw [← hW1]; exact HL1.out.keep (fun i hi => Below.heap_setCell _ _ _ _ (by have := HF1.out i hi; simp; omega))
  replace B1 : Hid _ := hide (show Blk W1 _ _ _ by rw [← hW1]; exact B1.out.far (by simp <;> omega) _)
  replace B2 : Hid _ := hide (show Blk W1 _ _ _ by rw [← hW1]; exact B2.out.far (by simp) _)
  replace B3 : Hid _ := hide (show Blk W1 _ _ _ by rw [← hW1]; exact B3.out.set 0 _)
  clear hW1 c1_ c3_ f3_
  refine (kdLLL.to_ _ [.slice A' n' c'] d.2.1 ⟨A', c', by rw [hn'.out], (H2.out.ext X1.out (Nat.le_refl _)).more X1.out.size⟩ hw2).mono ?_
  rintro e1 w2 ⟨vs2, fp2, rfl, ho2, hf2, hx2⟩
  obtain ⟨A2, c2, rfl, hl2⟩ := ho2
  rw [kdLLL.val1, hn'.out]
  have LT1 := hide HL1.out.lt
  replace B1 := hide (B1.out.ext hx2)
  replace B2 := hide (B2.out.ext hx2)
  replace B3 := hide (B3.out.ext hx2)
  have X2 := hide (X1.out.trans hx2)
  have z2 := hx2.size
  replace HL1 := hide (HL1.out.ext hx2)
  have HL2 := hide hl2
  have HF2 := hide hf2
  clear hx2 hl2 hf2
  have c1_ := B1.out.cell; have c3_ := B3.out.cell; have f3_ := B3.out.free
  go_wp2_with fail
  generalize hW2 : w2.setCell ⟨w.heap.size + 1 + 1, 1, none⟩ (.slice A2 n' c2) = W2
  have z2' : w2.heap.size = W2.heap.size := by rw [← hW2]; simp
  have Z2 := hide z2'
  clear z2'
  replace X2 : Hid (Ext w W2) := by rw [← hW2]; exact Below.setCell X2.out (by simp <;> omega) _
  replace HL1 : Hid (LO kdItem 70 W2 A1 c1 d.1 fp1) := by rw [← hW2]; exact HL1.out.keep (fun i hi => Below.heap_setCell _ _ _ _ (by have := HF1.out i hi; simp; omega))
  replace HL2 : Hid (LO kdLL 84 W2 A2 c2 d.2.1 fp2) := by rw [← hW2]; exact HL2.out.keep (fun i hi => Below.heap_setCell _ _ _ _ (by have := HF2.out i hi; have := Z1.out; simp; omega))
  replace B1 : Hid _ := hide (show Blk W2 _ _ _ by rw [← hW2]; exact B1.out.far (by simp <;> omega) _)
  replace B2 : Hid _ := hide (show Blk W2 _ _ _ by rw [← hW2]; exact B2.out.far (by simp) _)
  replace B3 : Hid _ := hide (show Blk W2 _ _ _ by rw [← hW2]; exact B3.out.set 1 _)
  clear hW2 c1_ c3_ f3_
  refine (kdRvS.to_ _ [.slice A'' m' c''] d.2.2 ⟨A'', c'', by rw [hm'.out], (H3.out.ext X2.out (Nat.le_refl _)).more X2.out.size⟩ hw3).mono ?_
  rintro e1 w3 ⟨vs3, fp3, rfl, ho3, hf3, hx3⟩
  obtain ⟨A3, c3, rfl, hl3⟩ := ho3
  rw [show kdRvS.val [Value.slice A3 d.2.2.length c3] = .slice A3 d.2.2.length c3 from rfl, hm'.out]
  have LT2 := hide HL2.out.lt
  replace B2 := hide (B2.out.ext hx3)
  replace B3 := hide (B3.out.ext hx3)
  have X3 := hide (X2.out.trans hx3)
  replace HL1 := hide (HL1.out.ext hx3)
  replace HL2 := hide (HL2.out.ext hx3)
  have z3 := hx3.size
  have HL3 := hide hl3
  have HF3 := hide hf3
  clear hx3 hl3 hf3
  have c3_ := B3.out.cell; have f3_ := B3.out.free
  have c2_ := B2.out.cell; have f2_ := B2.out.free
  go_wp2
  refine bodyPost_ret (v := .agg #[.slice A1 n c1, .slice A2 n' c2, .slice A3 m' c3]) (by simp [results, Try.results24, go_sem, c2_]) rfl ?_
  have q1 := Z1.out
  have q2 := Z2.out
  have g1 : ∀ i ∈ fp1, w.heap.size + 1 + 1 < i ∧ i < W1.heap.size := fun i hi => by have := HF1.out i hi; have := LT1.out i hi; omega
  have g2 : ∀ i ∈ fp2, W1.heap.size ≤ i ∧ i < W2.heap.size := fun i hi => by have := HF2.out i hi; have := LT2.out i hi; omega
  have g3 : ∀ i ∈ fp3, W2.heap.size ≤ i := fun i hi => HF3.out i hi
  have hk : ∀ i, w.heap.size + 1 + 1 < i → ((((w3.setCell ⟨w.heap.size + 1 + 1, 2, none⟩ (.slice A3 m' c3)).setCell ⟨w.heap.size + 1, 0, none⟩ (.slice A1 n c1)).setCell ⟨w.heap.size + 1, 1, none⟩ (.slice A2 n' c2)).setCell ⟨w.heap.size + 1, 2, none⟩ (.slice A3 m' c3)).heap[i]? = w3.heap[i]? := by
    intro i hi
    rw [Below.heap_setCell _ _ _ _ (by simp; omega), Below.heap_setCell _ _ _ _ (by simp; omega), Below.heap_setCell _ _ _ _ (by simp; omega), Below.heap_setCell _ _ _ _ (by simp; omega)]
  have n23 : (fp2 ++ fp3).Nodup := by
    rw [List.nodup_append]
    exact ⟨HL2.out.nodup, HL3.out.nodup, fun a ha b hb e => by have := g2 a ha; have := g3 b hb; omega⟩
  refine ⟨[.slice A1 n c1, .slice A2 n' c2, .slice A3 m' c3], fp1 ++ (fp2 ++ fp3), rfl, ⟨[.slice A1 n c1], [.slice A2 n' c2, .slice A3 m' c3], fp1, fp2 ++ fp3, rfl, ⟨A1, c1, by rw [hn.out], HL1.out.keep (fun i hi => hk i (g1 i hi).1)⟩, ⟨[.slice A2 n' c2], [.slice A3 m' c3], fp2, fp3, rfl, ⟨A2, c2, by rw [hn'.out], HL2.out.keep (fun i hi => hk i (by have := g2 i hi; omega))⟩, ⟨A3, c3, by rw [hm'.out], HL3.out.keep (fun i hi => hk i (by have := g3 i hi; omega))⟩, rfl, n23⟩, rfl, ?_⟩, ?_, ?_⟩
  · rw [List.nodup_append]
    refine ⟨HL1.out.nodup, n23, fun a ha b hb e => ?_⟩
    have := g1 a ha
    rcases List.mem_append.1 hb with h | h
    · have := g2 b h; omega
    · have := g3 b h; omega
  · intro i hi
    rcases List.mem_append.1 hi with h | h
    · have := g1 i h; omega
    · rcases List.mem_append.1 h with h | h
      · have := g2 i h; omega
      · have := g3 i h; omega
  · exact Below.setCell (Below.setCell (Below.setCell (Below.setCell X3.out (by simp <;> omega) _) (by simp) _) (by simp) _) (by simp) _

/-- Sheets, as the laws without marks hand them about. -/
def kSh : Kind ShD where
  rd w v d := ∃ vs, v = kdSh.val vs ∧ kdSh.rd w w.heap.size vs d
  fr w lo hi v d := ∃ vs fp, v = kdSh.val vs ∧ kdSh.own w vs d fp ∧ (∀ i ∈ fp, lo ≤ i ∧ i < hi)
  ok d := kdSh.wt d ≤ 1048576
  mrk _ d := d
  cnt _ := 0
  rd_ext := by
    rintro w w' v d ⟨vs, rfl, h⟩ hx
    exact ⟨vs, rfl, kdSh.rd_more (kdSh.rd_ext h hx (Nat.le_refl _)) hx.size⟩
  fr_rd := by
    rintro w lo hi v d ⟨vs, fp, rfl, h, _⟩
    exact ⟨vs, rfl, kdSh.own_rd h⟩
  fr_tch := by
    rintro w w' lo hi lo' hi' v d ⟨vs, fp, rfl, h, hf⟩ k hd
    refine ⟨vs, fp, rfl, kdSh.own_keep h (fun i hi' => k.block i (kdSh.own_lt h i hi') ?_), hf⟩
    have := hf i hi'
    omega
  ok_cnt := fun _ => Nat.zero_le _
def kSh.wt (d : ShD) : Nat := kdSh.wt d
theorem kSh.ok_of {d : ShD} (h : ¬ 1048576 < kSh.wt d) : kSh.ok d := Nat.le_of_not_lt h
theorem kSh.lr {w : World} {v : Value} {d : ShD} (h : kSh.rd w v d) : ∃ A c A' c' D e, v = .agg #[.slice A d.1.length c, .slice A' d.2.1.length c', .slice D d.2.2.length e] ∧ LR kdItem w w.heap.size A c d.1 ∧ LR kdLL w w.heap.size A' c' d.2.1 ∧ LR kdRv w w.heap.size D e d.2.2 := by
  obtain ⟨vs, rfl, h⟩ := h
  obtain ⟨A, c, A', c', D, e, rfl, h1⟩ := kdSh.open_ h
  exact ⟨A, c, A', c', D, e, rfl, h1⟩
theorem kSh.shape {w : World} {v : Value} {d : ShD} (h : kSh.rd w v d) : ∃ A n c A' n' c' A'' n'' c'', v = .agg #[.slice A n c, .slice A' n' c', .slice A'' n'' c''] := by
  obtain ⟨A, c, A', c', D, e, rfl, _⟩ := kSh.lr h
  exact ⟨A, _, c, A', _, c', D, _, e, rfl⟩
theorem kSh.to : ToC Try.prog kSh 24 := by
  rintro w v d ⟨vs, rfl, h⟩ hn
  refine (kdSh.to_ _ _ d h hn).mono ?_
  rintro e w' ⟨vs', fp, rfl, ho, hf, hx⟩
  exact ⟨_, rfl, ⟨vs', fp, rfl, ho, fun i hi => ⟨hf i hi, kdSh.own_lt ho i hi⟩⟩, hx⟩
theorem kSh.eq : EqC Try.prog kSh 17 := by
  rintro w v v' d ⟨vs, rfl, h⟩ ⟨vs', rfl, h'⟩ hn
  exact kdSh.eq_ _ _ _ d h h' hn
theorem kSh.sz (w : World) (v : Value) (d : ShD) (h : kSh.rd w v d) : Calls Try.prog 22 #[v, .int .i64 1048576] w fun e w' => e = .returned (.int .i64 (if (kSh.wt d : Int) ≤ 1048576 then 1048576 - kSh.wt d else -1)) ∧ Ext w w' := by
  obtain ⟨vs, rfl, h⟩ := h
  exact kdSh.sz _ _ d _ h (by omega) (by omega)
end Go.Proofs.Ytmckompikbechaa
