/- Marks copied; marks that are valid. -/
import Derived.Test.YtifdpmpconjhmaaMF
namespace Go.Proofs.Ytifdpmpconjhmaa
open Go.RowKit Go.Sort
set_option linter.unusedVariables false

def noMarks : Value := .agg #[.slice none 0 0, .slice none 0 0]

set_option maxRecDepth 100000 in
set_option maxHeartbeats 2000000 in
theorem s.mkIf_any (w : World) (v : Value) (d : MD) (h : kM.rd w v d) (hok : kM.ok d) :
    Calls Try.prog 32 #[v] w fun e w' => ∃ v', e = .returned (.tuple #[v', .bool (marksB d)]) ∧ (marksB d = true → v' = v) ∧ (marksB d = false → v' = noMarks) ∧ Ext w w' := by
  obtain ⟨A, c, A', c', rfl, h1, h2⟩ := kM.lr h
  have hok : kdM.wt d ≤ 1048576 := hok
  have H1 := hide h1
  have H2 := hide h2
  clear h h1 h2
  obtain ⟨n, hn⟩ : ∃ n, Hid (d.1.length = n) := ⟨_, rfl⟩
  obtain ⟨n', hn'⟩ : ∃ n', Hid (d.2.length = n') := ⟨_, rfl⟩
  rw [hn.out, hn'.out]
  obtain ⟨W0, hW0⟩ : ∃ W0, Hid (W0 = (w.alloc (.cells #[.slice A n c, .slice A' n' c'] 25)).alloc (.cells #[.slice none 0 0, .slice none 0 0] 25)) := ⟨_, rfl⟩
  have X0 : Hid (Ext w W0) := by rw [hW0.out]; exact (Ext.alloc w _).trans (Ext.alloc _ _)
  have B0 : Hid (Blk W0 w.heap.size #[.slice A n c, .slice A' n' c'] 25) := by rw [hW0.out]; exact (Blk.new rfl _ _).alloc _
  have B1 : Hid (Blk W0 (w.heap.size + 1) #[.slice none 0 0, .slice none 0 0] 25) := by rw [hW0.out]; exact Blk.new (by simp) _ _
  go_enter Try.func32, Try.ntmps32
  go_wp2_with fail
  rw [← hW0.out]
  have hc := s.mkAll_any A A' c c' w.heap.size d W0 (H1.out.ext X0.out (Nat.le_refl _)) (H2.out.ext X0.out (Nat.le_refl _)) X0.out.size hok
  rw [hn.out, hn'.out] at hc
  refine hc.mono ?_
  rintro e w1 ⟨rfl, hx⟩
  have X1 := hide (X0.out.trans hx)
  replace B0 := hide (B0.out.ext hx)
  replace B1 := hide (B1.out.ext hx)
  clear hx hc hW0
  have c0_ := B0.out.cell; have c1_ := B1.out.cell; have f1_ := B1.out.free
  cases hm : marksB d
  · have HM := hide hm
    clear hm
    go_wp2
    refine bodyPost_ret (v := .tuple #[noMarks, .bool false]) (by simp [results, Try.results32, go_sem, c1_, noMarks]) rfl ?_
    exact ⟨noMarks, by rw [HM.out], fun h => (by rw [HM.out] at h; cases h), fun _ => rfl, Below.setCell (Below.setCell X1.out (by simp) _) (by simp) _⟩
  · have HM := hide hm
    clear hm
    go_wp2
    refine bodyPost_ret (v := .tuple #[.agg #[.slice A n c, .slice A' n' c'], .bool true]) (by simp [results, Try.results32, go_sem, c1_]) rfl ?_
    exact ⟨_, by rw [HM.out], fun _ => rfl, fun h => (by rw [HM.out] at h; cases h), Below.setCell (Below.setCell X1.out (by simp) _) (by simp) _⟩

set_option maxRecDepth 100000 in
set_option maxHeartbeats 2000000 in
theorem i.asMarks_any (w : World) (v : Value) (d : MD) (h : kM.rd w v d) (hok : kM.ok d) :
    Calls Try.prog 30 #[v] w fun e w' => ∃ v', e = .returned (.tuple #[v', .bool (marksB d)]) ∧ (marksB d = true → v' = v) ∧ (marksB d = false → v' = noMarks) ∧ Ext w w' := by
  obtain ⟨A, c, A', c', rfl, h1, h2⟩ := kM.lr h
  have hok : kdM.wt d ≤ 1048576 := hok
  have H1 := hide h1
  have H2 := hide h2
  clear h h1 h2
  obtain ⟨n, hn⟩ : ∃ n, Hid (d.1.length = n) := ⟨_, rfl⟩
  obtain ⟨n', hn'⟩ : ∃ n', Hid (d.2.length = n') := ⟨_, rfl⟩
  rw [hn.out, hn'.out]
  obtain ⟨W0, hW0⟩ : ∃ W0, Hid (W0 = (w.alloc (.cells #[.slice A n c, .slice A' n' c'] 25)).alloc (.cells #[.slice none 0 0, .slice none 0 0] 25)) := ⟨_, rfl⟩
  have X0 : Hid (Ext w W0) := by rw [hW0.out]; exact (Ext.alloc w _).trans (Ext.alloc _ _)
  have B0 : Hid (Blk W0 w.heap.size #[.slice A n c, .slice A' n' c'] 25) := by rw [hW0.out]; exact (Blk.new rfl _ _).alloc _
  have B1 : Hid (Blk W0 (w.heap.size + 1) #[.slice none 0 0, .slice none 0 0] 25) := by rw [hW0.out]; exact Blk.new (by simp) _ _
  go_enter Try.func30, Try.ntmps30
  go_wp2_with fail
  rw [← hW0.out]
  have hc := i.isMarks_any A A' c c' w.heap.size d W0 (H1.out.ext X0.out (Nat.le_refl _)) (H2.out.ext X0.out (Nat.le_refl _)) X0.out.size hok
  rw [hn.out, hn'.out] at hc
  refine hc.mono ?_
  rintro e w1 ⟨rfl, hx⟩
  have X1 := hide (X0.out.trans hx)
  replace B0 := hide (B0.out.ext hx)
  replace B1 := hide (B1.out.ext hx)
  clear hx hc hW0
  have c0_ := B0.out.cell; have c1_ := B1.out.cell; have f1_ := B1.out.free
  cases hm : marksB d
  · have HM := hide hm
    clear hm
    go_wp2
    refine bodyPost_ret (v := .tuple #[noMarks, .bool false]) (by simp [results, Try.results30, go_sem, c1_, noMarks]) rfl ?_
    exact ⟨noMarks, by rw [HM.out], fun h => (by rw [HM.out] at h; cases h), fun _ => rfl, Below.setCell (Below.setCell X1.out (by simp) _) (by simp) _⟩
  · have HM := hide hm
    clear hm
    go_wp2
    refine bodyPost_ret (v := .tuple #[.agg #[.slice A n c, .slice A' n' c'], .bool true]) (by simp [results, Try.results30, go_sem, c1_]) rfl ?_
    exact ⟨_, by rw [HM.out], fun _ => rfl, fun h => (by rw [HM.out] at h; cases h), Below.setCell (Below.setCell X1.out (by simp) _) (by simp) _⟩

theorem LO.empty_ (w : World) : LO kdL 36 (w.alloc (.cells #[] 36)) (some ⟨w.heap.size, 0, none⟩) 0 [] [w.heap.size] :=
  ⟨[], [], Own.empty w 36 (Nat.zero_le _), rfl, rfl, by simp, rfl, by simp⟩
/-- A row of its own, as an element of a list. -/
theorem own_row {w : World} {lo n c : Nat} {A : Option Addr} {zs : List Int} (h : OwnI 3 w lo A n c zs) : kdL.own w [.slice A n c] zs (A.map (·.block)).toList := by
  have hl := h.len
  subst hl
  exact ⟨A, c, rfl, h.lo_⟩

set_option maxRecDepth 100000 in
set_option maxHeartbeats 2000000 in
theorem i.copyLists_any (A : Option Addr) (c B : Nat) (xs : List (List Int)) (w : World) (h : LR kdL w B A c xs) (hB : B ≤ w.heap.size) (hwt : kdLL.wt xs ≤ 1048576) :
    Calls Try.prog 44 #[.slice A xs.length c] w fun e w' => ∃ A' c' fp, e = .returned (.slice A' xs.length c') ∧ LO kdL 36 w' A' c' xs fp ∧ (∀ i ∈ fp, w.heap.size ≤ i) ∧ Ext w w' := by
  have H := hide h
  have hc1 := h.1; have hc2 := h.2.1
  have hlen := wtL_len kdL xs
  have hn : xs.length ≤ 1048576 := by have : kdLL.wt xs = wtL kdL xs := rfl; omega
  have HR : Hid (∀ x ∈ xs, x.length ≤ 1048576) := fun x hx => by
    obtain ⟨k, hk⟩ := List.getElem?_of_mem hx
    have h5 := wtL_at kdL xs k x hk
    have h6 : kdL.wt x = x.length := wtL_int x
    have : kdLL.wt xs = wtL kdL xs := rfl
    omega
  clear h hlen hwt
  obtain ⟨n, hn'⟩ : ∃ n, Hid (xs.length = n) := ⟨_, rfl⟩
  rw [hn'.out] at hn hc1 ⊢
  go_enter Try.func44, Try.ntmps44
  go_wp2
  go_loopw [3, 9] (fun o i wr => ∃ (k : Nat) (A' : Option Addr) (c' : Nat) (fp : List Nat), k ≤ n ∧ i = .int .i64 k ∧ o = .slice A' k c' ∧ LO kdL 36 wr A' c' (xs.take k) fp ∧ (∀ i ∈ fp, w.heap.size ≤ i) ∧ Ext w wr) (fun _ i _ => n - (intOf i).toNat)
  case atStart => exact ⟨0, _, _, _, Nat.zero_le _, rfl, rfl, LO.empty_ w, fun i hi => by simp at hi; omega, Ext.alloc w _⟩
  case round =>
    obtain ⟨k, A', c', fp, hk, rfl, rfl, hown, hfp, hx⟩ := hrel
    have HO := hide hown
    have HF := hide hfp
    have HX := hide hx
    clear hown hx hfp
    by_cases hlt : k < n
    · obtain ⟨x, hxk⟩ : ∃ x, Hid (xs[k]? = some x) := ⟨_, List.getElem?_eq_getElem (by rw [hn'.out]; exact hlt)⟩
      have hx9 := HR.out x (List.mem_of_getElem? hxk.out)
      obtain ⟨b, off, Ak, ck, rfl, hb, hck, hrk⟩ := H.out.row HX.out hB hxk.out
      have hq := i.copyInts_any Ak x.length ck B x wr hrk.sl (by have := HX.out.size; omega) hx9
      have HQ := hide hq
      have hz := hrk.1
      clear hq hrk
      have HK : Hid (xs.take (k + 1) = xs.take k ++ [x]) := by
        obtain ⟨hk', e⟩ := List.getElem?_eq_some_iff.1 hxk.out
        show _ = _
        rw [List.take_succ_eq_append_getElem hk', e]
      have HL : Hid ((xs.take k).length = k) := by show _ = _; rw [List.length_take, hn'.out]; omega
      obtain ⟨m, hm⟩ : ∃ m, Hid (x.length = m) := ⟨_, rfl⟩
      rw [hm.out] at hx9 hck hz HQ
      go_wp2_with fail
      refine HQ.out.mono ?_
      rintro e w1 ⟨A1, c1, rfl, o1, x1⟩
      have LO1 := hide ((HO.out.ext x1).ext (Ext.alloc w1 (.cells #[.slice A1 m c1] 36)))
      have KO1 := hide (kdL.own_ext (own_row o1) (Ext.alloc w1 (.cells #[.slice A1 m c1] 36)))
      have FL := hide (OwnI.fpLo o1)
      have X1 := hide ((HX.out.trans x1).trans (Ext.alloc w1 (.cells #[.slice A1 m c1] 36)))
      have LT := hide HO.out.lt
      have SZ := hide HX.out.size
      clear o1 x1 HQ HO
      go_wp2_with (at_builtin; refine wpList_append_LO (K := kdL) rfl (.tmp 13) (.tmp 16) rfl elemN_row (by decide) HL.out.symm rfl rfl LO1.out KO1.out ?d1 ?d2 ?d3 ?d4 ?_)
      case d1 => intro i hi hm; have := FL.out i hi; have := LT.out i hm; omega
      case d2 =>
        intro j u hu
        cases j with
        | zero => simp at hu; subst hu; simp [World.cell?_alloc_at]
        | succ j => simp at hu
      case d3 => omega
      case d4 => omega
      intro A2 c2 w2 fp2 hap
      have HA := hide hap
      clear hap
      go_wp2
      go_roundw
      case rel =>
        refine ⟨k + 1, A2, c2, fp2, by omega, by go_num, rfl, by rw [HK.out]; exact HA.out.own, fun i hi => ?_, X1.out.tchF HA.out.tch HF.out⟩
        have h4 := SZ.out
        have h5 := X1.out.size
        rcases HA.out.sub i hi with h | h | h
        · exact HF.out i h
        · have := FL.out i h; omega
        · rw [h]; exact h5
      case measure => simp [intOf]; omega
    · go_wp2
      go_ret
      have ek : k = n := by omega
      subst ek
      exact ⟨A', c', fp, rfl, by have := HO.out; rwa [List.take_of_length_le (by rw [hn'.out]; exact Nat.le_refl _)] at this, HF.out, HX.out⟩

theorem kM.mk {w : World} {A A' : Option Addr} {c c' lo hi n n' : Nat} {d : MD} {fp fp' : List Nat} (h : LO kdL 36 w A c d.1 fp) (h' : LO kdL 36 w A' c' d.2 fp') (hn : n = d.1.length) (hn' : n' = d.2.length) (hf : ∀ i ∈ fp, lo ≤ i ∧ i < hi) (hf' : ∀ i ∈ fp', lo ≤ i ∧ i < hi) (hd : ∀ i ∈ fp, i ∉ fp') : kM.fr w lo hi (.agg #[.slice A n c, .slice A' n' c']) d := by
  subst hn hn'
  refine ⟨[.slice A d.1.length c, .slice A' d.2.length c'], fp ++ fp', rfl, ⟨[.slice A d.1.length c], [.slice A' d.2.length c'], fp, fp', rfl, ⟨A, c, rfl, h⟩, ⟨A', c', rfl, h'⟩, rfl, ?_⟩, fun i hi => ?_⟩
  · rw [List.nodup_append]
    exact ⟨h.nodup, h'.nodup, fun a ha b hb e => hd a ha (e ▸ hb)⟩
  · rcases List.mem_append.1 hi with h | h
    · exact hf i h
    · exact hf' i h

set_option maxRecDepth 100000 in
set_option maxHeartbeats 2000000 in
theorem i.copyMarks_any (w : World) (v : Value) (d : MD) (h : kM.rd w v d) (hok : kM.ok d) :
    Calls Try.prog 26 #[v] w fun e w' => ∃ v', e = .returned v' ∧ kM.fr w' w.heap.size w'.heap.size v' d ∧ Ext w w' := by
  obtain ⟨A, c, A', c', rfl, h1, h2⟩ := kM.lr h
  have hok : kdM.wt d ≤ 1048576 := hok
  have hw1 : kdLL.wt d.1 ≤ 1048576 := by have : kdM.wt d = kdLL.wt d.1 + kdLL.wt d.2 := rfl; omega
  have hw2 : kdLL.wt d.2 ≤ 1048576 := by have : kdM.wt d = kdLL.wt d.1 + kdLL.wt d.2 := rfl; omega
  have H1 := hide h1
  have H2 := hide h2
  clear h h1 h2
  obtain ⟨n, hn⟩ : ∃ n, Hid (d.1.length = n) := ⟨_, rfl⟩
  obtain ⟨n', hn'⟩ : ∃ n', Hid (d.2.length = n') := ⟨_, rfl⟩
  rw [hn.out, hn'.out]
  obtain ⟨W0, hW0⟩ : ∃ W0, Hid (W0 = (w.alloc (.cells #[.slice A n c, .slice A' n' c'] 25)).alloc (.cells #[.slice none 0 0, .slice none 0 0] 25)) := ⟨_, rfl⟩
  have X0 : Hid (Ext w W0) := by rw [hW0.out]; exact (Ext.alloc w _).trans (Ext.alloc _ _)
  have B0 : Hid (Blk W0 w.heap.size #[.slice A n c, .slice A' n' c'] 25) := by rw [hW0.out]; exact (Blk.new rfl _ _).alloc _
  have B1 : Hid (Blk W0 (w.heap.size + 1) #[.slice none 0 0, .slice none 0 0] 25) := by rw [hW0.out]; exact Blk.new (by simp) _ _
  have SZ : Hid (w.heap.size + 1 < W0.heap.size) := B1.out.lt
  have HC1 := i.copyLists_any A c w.heap.size d.1 W0.drew (H1.out.ext (X0.out.trans (Ext.drew _)) (Nat.le_refl _)) X0.out.size hw1
  rw [hn.out] at HC1
  have HC2 : ∀ wx, Ext W0 wx → Calls Try.prog 44 #[.slice A' n' c'] wx fun e w' => ∃ A2 c2 fp, e = .returned (.slice A2 n' c2) ∧ LO kdL 36 w' A2 c2 d.2 fp ∧ (∀ i ∈ fp, wx.heap.size ≤ i) ∧ Ext wx w' := by
    intro wx hwx
    have h9 := i.copyLists_any A' c' w.heap.size d.2 wx (H2.out.ext (X0.out.trans hwx) (Nat.le_refl _)) (Nat.le_trans X0.out.size hwx.size) hw2
    rw [hn'.out] at h9
    exact h9
  replace HC1 := hide HC1
  replace HC2 := hide HC2
  go_enter Try.func26, Try.ntmps26
  go_wp2_with fail
  rw [← hW0.out]
  clear hW0
  have cB := B0.out.cell
  go_region_held3 (fun w' => ∀ i, w'.cell? ⟨w.heap.size, i, none⟩ = #[Value.slice A n c, .slice A' n' c'][i]?) (first | exact (((B0.out.ext Y2.out).far (by simp) _).far (by simp) _).cell | exact (B0.out.ext Y2.out).cell | exact (B0.out.ext Y1.out).cell | exact (B0.out.ext (Ext.drew W0)).cell)
    (first | (go_at_call 44; refine (HC2.out w2 Y1.out).mono ?_; rintro e w3 ⟨A2, c2, fp2, rfl, o2, f2, x2⟩; have Y2 := hide (Y1.out.trans x2); have c1_ := (B1.out.ext Y2.out).cell; have f1_ := (B1.out.ext Y2.out).free) | (go_at_call 44; refine HC1.out.mono ?_; rintro e w2 ⟨A1, c1, fp1, rfl, o1, f1, x1⟩; have Y1 := hide ((Ext.drew W0).trans x1)))
  go_wp2
  refine bodyPost_ret (v := .agg #[.slice A1 n c1, .slice A2 n' c2]) (by simp [results, Try.results26, go_sem, c1_]) rfl ?_
  have hk : ∀ i, w.heap.size + 1 < i → ((w3.setCell ⟨w.heap.size + 1, 0, none⟩ (.slice A1 n c1)).setCell ⟨w.heap.size + 1, 1, none⟩ (.slice A2 n' c2)).heap[i]? = w3.heap[i]? := by
    intro i hi
    rw [Below.heap_setCell _ _ _ _ (by simp; omega), Below.heap_setCell _ _ _ _ (by simp; omega)]
  have hf1 : ∀ i ∈ fp1, w.heap.size + 1 < i ∧ i < w2.heap.size := fun i hi => by
    have h1 : W0.heap.size ≤ i := f1 i hi
    have := SZ.out; have := o1.lt i hi; omega
  have hf2 : ∀ i ∈ fp2, w.heap.size + 1 < i ∧ w2.heap.size ≤ i ∧ i < w3.heap.size := fun i hi => by
    have h1 := f2 i hi
    have := SZ.out; have := Y1.out.size; have := o2.lt i hi; omega
  refine ⟨_, rfl, kM.mk ((o1.ext x2).keep (fun i hi => hk i (hf1 i hi).1)) (o2.keep (fun i hi => hk i (hf2 i hi).1)) hn.out.symm hn'.out.symm (fun i hi => ?_) (fun i hi => ?_) (fun i hi hi' => ?_), Below.setCell (Below.setCell (X0.out.trans Y2.out) (by simp) _) (by simp) _⟩
  · have := hf1 i hi; have := x2.size; simp; omega
  · have := hf2 i hi; simp; omega
  · have := hf1 i hi; have := hf2 i hi'; omega

theorem step_append_LO {P : Program} {t e : TypeId} {bytes : Nat} {z : Value} {α : Type} {K : Kd α} {w : World} {A : Option Addr} {c : Nat} {xs : List α} {fp : List Nat} {ops : Array Oper} {o : Oper} {a : Act} {Q : Exit → Act → World → Prop} {KK : Act → World → Prop} {G : Prop} (hgd : o.guard = none) (s y : Operand)
    (hop : o.op = .call { callee := .builtin .append, args := #[s, y], argTypes := #[t, t] }) (E : ElemN P t e K.size bytes z) (hs0 : 0 < K.size)
    {gl d n : Nat} (hn : n = xs.length) (hs' : a.eval s = .slice A n c) (hx' : a.eval y = .slice (some ⟨gl, 0, none⟩) 1 d) (h : LO K e w A c xs fp) {cs : List Value} {x : α} {f : List Nat} (ho : K.own w cs x f) (hd : ∀ i ∈ f, i ∉ fp)
    (hsrc : ∀ j u, cs[j]? = some u → w.cell? ⟨gl, 0 + j, none⟩ = some u) (hb : (n + 1) * bytes ≤ 140737488355328) (hm : n + 1 ≤ 4611686018427387904)
    (hK : ∀ A' c' w' fp', ApL K e w fp f w' A' c' (xs ++ [x]) fp' → KK (a.put o.dst (.slice A' (n + 1) c')) w') :
    if Region.wanted o (yielded ops a.tmps) = true then Oper.wp P o a w KK Q else G := by
  have hw : Region.wanted o (yielded ops a.tmps) = true := by simp [Region.wanted, hgd]
  rw [if_pos hw]
  exact wp_append_LO s y hop E hs0 hn hs' hx' h ho hd hsrc hb hm hK
end Go.Proofs.Ytifdpmpconjhmaa
