/- Marks: what the laws' helpers do with them. -/
import Derived.Test.YtcmoedjcokkdcaaGreatGB
namespace Go.Proofs.YtcmoedjcokkdcaaGreat
open Go.RowKit Go.Sort
set_option linter.unusedVariables false

def kdM : Kd (List (List Int) × List (List Int)) := kdPair kdLL kdLL
/-- Marks, as they lie in a value. -/
theorem kdM.open_ {w : World} {B : Nat} {vs : List Value} {d : List (List Int) × List (List Int)} (h : kdM.rd w B vs d) : ∃ A c A' c', vs = [.slice A d.1.length c, .slice A' d.2.length c'] ∧ LR kdL w B A c d.1 ∧ LR kdL w B A' c' d.2 := by
  obtain ⟨v1, v2, rfl, ⟨A, c, rfl, h1⟩, ⟨A', c', rfl, h2⟩⟩ := h
  exact ⟨A, c, A', c', rfl, h1, h2⟩
theorem kdM.val2 (a b : Value) : kdM.val [a, b] = .agg #[a, b] := rfl

set_option maxHeartbeats 1000000 in
theorem kdM.sz : SzD Tryz.prog kdM 7 := by
  rintro w vs d l h hl0 hl1
  obtain ⟨A, c, A', c', rfl, h1, h2⟩ := kdM.open_ h
  have H1 := hide h1
  have H2 := hide h2
  clear h h1 h2
  rw [kdM.val2]
  obtain ⟨W1, hW1⟩ : ∃ W1, Hid (kdLL.wt d.1 = W1) := ⟨_, rfl⟩
  obtain ⟨W2, hW2⟩ : ∃ W2, Hid (kdLL.wt d.2 = W2) := ⟨_, rfl⟩
  rw [show kdM.wt d = W1 + W2 from by rw [← hW1.out, ← hW2.out]; rfl]
  obtain ⟨n, hn⟩ : ∃ n, Hid (d.1.length = n) := ⟨_, rfl⟩
  obtain ⟨n', hn'⟩ : ∃ n', Hid (d.2.length = n') := ⟨_, rfl⟩
  rw [hn.out, hn'.out]
  have hx0 := hide (Ext.alloc w (.cells #[.slice A n c, .slice A' n' c'] 29))
  obtain ⟨R, hR⟩ : ∃ R, Hid ((if ((W1 + W2 : Nat) : Int) ≤ l then l - ((W1 + W2 : Nat) : Int) else -1) = R) := ⟨_, rfl⟩
  rw [hR.out]
  go_enter Tryz.func7, Tryz.ntmps7
  go_wp2_with fail
  refine (kdLL.sz _ [.slice A n c] d.1 l ⟨A, c, by rw [hn.out], (H1.out.ext hx0.out (Nat.le_refl _)).more hx0.out.size⟩ hl0 hl1).mono ?_
  rintro e w1 ⟨rfl, hx1⟩
  rw [hW1.out]
  have cB : w1.cell? ⟨w.heap.size, 1, none⟩ = some (.slice A' n' c') := by
    rw [hx1.cell (by simp)]
    simp [World.cell?_alloc_at]
  have X1 := hide (hx0.out.trans hx1)
  clear hx1
  by_cases hle : (W1 : Int) ≤ l
  · rw [if_pos hle]
    generalize hm : l - (W1 : Int) = m
    have hm0 : 0 ≤ m := by omega
    have hm1 : m ≤ 1048576 := by omega
    have HM := hide hm
    clear hm
    go_wp2_with fail
    refine (kdLL.sz _ [.slice A' n' c'] d.2 m ⟨A', c', by rw [hn'.out], (H2.out.ext X1.out (Nat.le_refl _)).more X1.out.size⟩ hm0 hm1).mono ?_
    rintro e w2 ⟨rfl, hx2⟩
    rw [hW2.out]
    have X2 := hide (X1.out.trans hx2)
    clear hx2
    by_cases hle2 : (W2 : Int) ≤ m
    · rw [if_pos hle2]
      go_wp2
      go_ret
      exact ⟨ret_int (by rw [← hR.out, if_pos (by have := HM.out; omega)]; have := HM.out; omega), X2.out⟩
    · rw [if_neg hle2]
      go_wp2
      go_ret
      exact ⟨ret_int (by rw [← hR.out, if_neg (by have := HM.out; omega)]), X2.out⟩
  · rw [if_neg hle]
    go_wp2
    go_ret
    exact ⟨ret_int (by rw [← hR.out, if_neg (by omega)]), X1.out⟩

set_option maxHeartbeats 1000000 in
theorem kdM.to_ : ToD Tryz.prog kdM 11 := by
  rintro w vs d h hwt
  obtain ⟨A, c, A', c', rfl, h1, h2⟩ := kdM.open_ h
  have H1 := hide h1
  have H2 := hide h2
  have hw1 : kdLL.wt d.1 ≤ 1048576 := by have : kdM.wt d = kdLL.wt d.1 + kdLL.wt d.2 := rfl; omega
  have hw2 : kdLL.wt d.2 ≤ 1048576 := by have : kdM.wt d = kdLL.wt d.1 + kdLL.wt d.2 := rfl; omega
  clear h h1 h2 hwt
  rw [kdM.val2]
  obtain ⟨n, hn⟩ : ∃ n, Hid (d.1.length = n) := ⟨_, rfl⟩
  obtain ⟨n', hn'⟩ : ∃ n', Hid (d.2.length = n') := ⟨_, rfl⟩
  rw [hn.out, hn'.out]
  obtain ⟨W0, hW0⟩ : ∃ W0, Hid (W0 = ((w.alloc (.cells #[.slice A n c, .slice A' n' c'] 29)).alloc (.cells #[.slice none 0 0, .slice none 0 0] 41)).alloc (.cells #[.slice none 0 0, .slice none 0 0] 41)) := ⟨_, rfl⟩
  have X0 : Hid (Ext w W0) := by rw [hW0.out]; exact ((Ext.alloc w _).trans (Ext.alloc _ _)).trans (Ext.alloc _ _)
  have B1 : Blk W0 w.heap.size #[.slice A n c, .slice A' n' c'] 29 := by rw [hW0.out]; exact ((Blk.new rfl _ _).alloc _).alloc _
  have B2 : Blk W0 (w.heap.size + 1) #[.slice none 0 0, .slice none 0 0] 41 := by rw [hW0.out]; exact (Blk.new (by simp) _ _).alloc _
  have B3 : Blk W0 (w.heap.size + 1 + 1) #[.slice none 0 0, .slice none 0 0] 41 := by rw [hW0.out]; exact Blk.new (by simp) _ _
  replace B1 := hide B1
  replace B2 := hide B2
  replace B3 := hide B3
  go_enter Tryz.func11, Tryz.ntmps11
  go_wp2_with fail
  rw [← hW0.out]
  refine (kdLL.to_ _ [.slice A n c] d.1 ⟨A, c, by rw [hn.out], (H1.out.ext X0.out (Nat.le_refl _)).more X0.out.size⟩ hw1).mono ?_
  rintro e w1 ⟨vs1, fp1, rfl, ho1, hf1, hx1⟩
  obtain ⟨A1, c1, rfl, hl1⟩ := ho1
  rw [kdLL.val1, hn.out]
  replace B1 := hide (B1.out.ext hx1)
  replace B2 := hide (B2.out.ext hx1)
  replace B3 := hide (B3.out.ext hx1)
  have X1 := hide (X0.out.trans hx1)
  have HL1 := hide hl1
  have HF1 := hide hf1
  have S0 : Hid (w.heap.size + 1 + 1 < W0.heap.size) := by rw [hW0.out]; show _ < _; simp
  clear hx1 hl1 hf1 hW0
  have c1_ := B1.out.cell; have c3_ := B3.out.cell; have f3_ := B3.out.free
  go_wp2_with fail
  generalize hW1 : w1.setCell ⟨w.heap.size + 1 + 1, 0, none⟩ (.slice A1 n c1) = W1
  have X1' : Hid (Ext w W1) := by rw [← hW1]; exact Below.setCell X1.out (by simp <;> omega) _
  have HL1' : Hid (LO kdL 23 W1 A1 c1 d.1 fp1) := by rw [← hW1]; exact HL1.out.keep (fun i hi => Below.heap_setCell _ _ _ _ (by have := HF1.out i hi; have := S0.out; simp; omega))
  replace B1 : Hid _ := hide (show Blk W1 _ _ _ by rw [← hW1]; exact B1.out.far (by simp <;> omega) _)
  replace B2 : Hid _ := hide (show Blk W1 _ _ _ by rw [← hW1]; exact B2.out.far (by simp) _)
  replace B3 : Hid _ := hide (show Blk W1 _ _ _ by rw [← hW1]; exact B3.out.set 0 _)
  have SW := hide B3.out.lt
  clear hW1 c1_ c3_ f3_
  refine (kdLL.to_ _ [.slice A' n' c'] d.2 ⟨A', c', by rw [hn'.out], (H2.out.ext X1'.out (Nat.le_refl _)).more X1'.out.size⟩ hw2).mono ?_
  rintro e w2 ⟨vs2, fp2, rfl, ho2, hf2, hx2⟩
  obtain ⟨A2, c2, rfl, hl2⟩ := ho2
  rw [kdLL.val1, hn'.out]
  replace B1 := hide (B1.out.ext hx2)
  replace B2 := hide (B2.out.ext hx2)
  replace B3 := hide (B3.out.ext hx2)
  have X2 := hide (X1'.out.trans hx2)
  have HL1'' := hide (HL1'.out.ext hx2)
  have HL2 := hide hl2
  have HF2 := hide hf2
  have HLt := hide HL1'.out.lt
  clear hx2 hl2 hf2
  have c3_ := B3.out.cell; have f3_ := B3.out.free
  have c2_ := B2.out.cell; have f2_ := B2.out.free
  go_wp2
  refine bodyPost_ret (v := .agg #[.slice A1 n c1, .slice A2 n' c2]) (by simp [results, Tryz.results11, go_sem, c2_]) rfl ?_
  have hk : ∀ i, w.heap.size + 1 + 1 < i → (((w2.setCell ⟨w.heap.size + 1 + 1, 1, none⟩ (.slice A2 n' c2)).setCell ⟨w.heap.size + 1, 0, none⟩ (.slice A1 n c1)).setCell ⟨w.heap.size + 1, 1, none⟩ (.slice A2 n' c2)).heap[i]? = w2.heap[i]? := by
    intro i hi
    rw [Below.heap_setCell _ _ _ _ (by simp; omega), Below.heap_setCell _ _ _ _ (by simp; omega), Below.heap_setCell _ _ _ _ (by simp; omega)]
  have hf1 : ∀ i ∈ fp1, w.heap.size + 1 + 1 < i := fun i hi => by have := HF1.out i hi; have := S0.out; omega
  have hf2 : ∀ i ∈ fp2, w.heap.size + 1 + 1 < i := fun i hi => by have := HF2.out i hi; have := X1'.out.size; have := S0.out; have := B3.out.lt; have h9 := HF2.out i hi; have := SW.out; omega
  refine ⟨[.slice A1 n c1, .slice A2 n' c2], fp1 ++ fp2, rfl, ⟨[.slice A1 n c1], [.slice A2 n' c2], fp1, fp2, rfl, ⟨A1, c1, by rw [hn.out], HL1''.out.keep (fun i hi => hk i (hf1 i hi))⟩, ⟨A2, c2, by rw [hn'.out], HL2.out.keep (fun i hi => hk i (hf2 i hi))⟩, rfl, ?_⟩, ?_, ?_⟩
  · rw [List.nodup_append]
    refine ⟨HL1.out.nodup, HL2.out.nodup, fun a ha b hb e => ?_⟩
    have := HLt.out a ha
    have := HF2.out b hb
    omega
  · intro i hi
    rcases List.mem_append.1 hi with h | h
    · have := hf1 i h; omega
    · have := hf2 i h; omega
  · exact Below.setCell (Below.setCell (Below.setCell X2.out (by simp <;> omega) _) (by simp) _) (by simp) _

set_option maxHeartbeats 1000000 in
theorem kdM.eq_ : EqD Tryz.prog kdM 16 := by
  rintro w vs vs' d h h' hwt
  obtain ⟨A, c, A', c', rfl, h1, h2⟩ := kdM.open_ h
  obtain ⟨D, e, D', e', rfl, h3, h4⟩ := kdM.open_ h'
  have H1 := hide h1
  have H2 := hide h2
  have H3 := hide h3
  have H4 := hide h4
  have hw1 : kdLL.wt d.1 ≤ 1048576 := by have : kdM.wt d = kdLL.wt d.1 + kdLL.wt d.2 := rfl; omega
  have hw2 : kdLL.wt d.2 ≤ 1048576 := by have : kdM.wt d = kdLL.wt d.1 + kdLL.wt d.2 := rfl; omega
  clear h h1 h2 h' h3 h4 hwt
  rw [kdM.val2, kdM.val2]
  obtain ⟨n, hn⟩ : ∃ n, Hid (d.1.length = n) := ⟨_, rfl⟩
  obtain ⟨n', hn'⟩ : ∃ n', Hid (d.2.length = n') := ⟨_, rfl⟩
  rw [hn.out, hn'.out]
  obtain ⟨W0, hW0⟩ : ∃ W0, Hid (W0 = (w.alloc (.cells #[.slice A n c, .slice A' n' c'] 41)).alloc (.cells #[.slice D n e, .slice D' n' e'] 41)) := ⟨_, rfl⟩
  have X0 : Hid (Ext w W0) := by rw [hW0.out]; exact (Ext.alloc w _).trans (Ext.alloc _ _)
  have B1 := hide (show Blk W0 w.heap.size #[.slice A n c, .slice A' n' c'] 41 by rw [hW0.out]; exact (Blk.new rfl _ _).alloc _)
  have B2 := hide (show Blk W0 (w.heap.size + 1) #[.slice D n e, .slice D' n' e'] 41 by rw [hW0.out]; exact Blk.new (by simp) _ _)
  go_enter Tryz.func16, Tryz.ntmps16
  go_wp2_with fail
  rw [← hW0.out]
  refine (kdLL.eq_ _ [.slice A n c] [.slice D n e] d.1 ⟨A, c, by rw [hn.out], (H1.out.ext X0.out (Nat.le_refl _)).more X0.out.size⟩ ⟨D, e, by rw [hn.out], (H3.out.ext X0.out (Nat.le_refl _)).more X0.out.size⟩ hw1).mono ?_
  rintro e1 w1 ⟨rfl, hx1⟩
  have c1_ := (B1.out.ext hx1).cell; have c2_ := (B2.out.ext hx1).cell
  have X1 := hide (X0.out.trans hx1)
  clear hx1
  go_wp2_with fail
  refine (kdLL.eq_ _ [.slice A' n' c'] [.slice D' n' e'] d.2 ⟨A', c', by rw [hn'.out], (H2.out.ext X1.out (Nat.le_refl _)).more X1.out.size⟩ ⟨D', e', by rw [hn'.out], (H4.out.ext X1.out (Nat.le_refl _)).more X1.out.size⟩ hw2).mono ?_
  rintro e1 w2 ⟨rfl, hx2⟩
  have X2 := hide (X1.out.trans hx2)
  clear hx2
  go_wp2
  go_ret
  exact ⟨rfl, X2.out⟩

set_option maxHeartbeats 1000000 in
theorem kdM.mark : MarkD Tryz.prog kdM 19 := by
  rintro w vs d fp k h hwt hk0 hk1
  obtain ⟨v1, v2, f1, f2, rfl, ⟨A, c, rfl, h1⟩, ⟨A', c', rfl, h2⟩, hfp, hnd⟩ := h
  have H1 := hide h1
  have H2 := hide h2
  have hw1 : kdLL.wt d.1 ≤ 1048576 := by have : kdM.wt d = kdLL.wt d.1 + kdLL.wt d.2 := rfl; omega
  have hw2 : kdLL.wt d.2 ≤ 1048576 := by have : kdM.wt d = kdLL.wt d.1 + kdLL.wt d.2 := rfl; omega
  have hce : (kdM.cnt d : Nat) = kdLL.cnt d.1 + kdLL.cnt d.2 := rfl
  clear h1 h2 hwt
  have hdj : Hid (∀ i ∈ f1, i ∉ f2) := by rw [hfp, List.nodup_append] at hnd; exact fun i hi hi' => hnd.2.2 i hi i hi' rfl
  show Calls _ _ #[.agg #[.slice A d.1.length c, .slice A' d.2.length c'], _] _ _
  obtain ⟨n, hn⟩ : ∃ n, Hid (d.1.length = n) := ⟨_, rfl⟩
  obtain ⟨n', hn'⟩ : ∃ n', Hid (d.2.length = n') := ⟨_, rfl⟩
  rw [hn.out, hn'.out]
  obtain ⟨C1, hC1⟩ : ∃ C1, Hid (kdLL.cnt d.1 = C1) := ⟨_, rfl⟩
  obtain ⟨C2, hC2⟩ : ∃ C2, Hid (kdLL.cnt d.2 = C2) := ⟨_, rfl⟩
  rw [hC1.out] at hce
  rw [hC2.out] at hce
  rw [hce] at hk1 ⊢
  have HFP := hide hfp
  have HND := hide hnd
  clear hce hfp hnd
  have X0 := hide (Ext.alloc w (.cells #[.slice A n c, .slice A' n' c'] 41))
  have B1 := hide (Blk.new (w := w) rfl #[.slice A n c, .slice A' n' c'] 41)
  go_enter Tryz.func19, Tryz.ntmps19
  go_wp2_with fail
  refine (kdLL.mark _ [.slice A n c] d.1 f1 k ⟨A, c, by rw [hn.out], H1.out.ext X0.out⟩ hw1 hk0 (by rw [hC1.out]; omega)).mono ?_
  rintro e1 w1 ⟨rfl, ho1, ht1⟩
  rw [hC1.out]
  have B1' := B1.out.tchF ht1 (fun hm => by have := H1.out.lt _ hm; omega)
  have c1_ := B1'.cell
  have H2' := hide ((kdLL.own_tchF (show kdLL.own _ [.slice A' d.2.length c'] d.2 f2 from ⟨A', c', rfl, H2.out.ext X0.out⟩) ht1 (fun i hi hi' => hdj.out i hi' hi)))
  have HO1 := hide ho1
  have HT1 := hide ht1
  clear ho1 ht1 B1'
  go_wp2_with fail
  refine (kdLL.mark _ [.slice A' n' c'] d.2 f2 (k + C1) (by rw [← hn'.out]; exact H2'.out) hw2 (by omega) (by rw [hC2.out]; omega)).mono ?_
  rintro e1 w2 ⟨rfl, ho2, ht2⟩
  rw [hC2.out]
  have HO2 := hide ho2
  have HT2 := hide ht2
  clear ho2 ht2
  go_wp2
  go_ret
  refine ⟨ret_int (by omega), ⟨[.slice A n c], [.slice A' n' c'], f1, f2, rfl, kdLL.own_tchF HO1.out HT2.out hdj.out, ?_, HFP.out, HND.out⟩, ?_⟩
  · show kdLL.own w2 [.slice A' n' c'] (kdLL.mrk (k + kdLL.cnt d.1) d.2) f2
    rw [hC1.out]
    exact HO2.out
  · rw [HFP.out]
    exact ((TchF.of_ext X0.out).trans (HT1.out.more (fun i hi => by simp [hi]))).trans (HT2.out.more (fun i hi => by simp [hi]))
end Go.Proofs.YtcmoedjcokkdcaaGreat
