/- Lists of lists in new memory; a whole list of flat elements appended. -/
import Derived.Test.YtofmfagdaiphaaaGO
namespace Go.Proofs.Ytofmfagdaiphaaa
open Go.RowKit Go.Sort
set_option linter.unusedVariables false

/-- Row k of a list of rows, in a later world. -/
theorem LR.rowL {w w' : World} {B c k : Nat} {A : Option Addr} {xs : List (List Int)} {x : List Int} (h : LR kdL w B A c xs) (k' : Ext w w') (hB : B ≤ w.heap.size) (hx : xs[k]? = some x) :
    ∃ b off Ak ck, A = some ⟨b, off, none⟩ ∧ b < B ∧ w'.cell? ⟨b, off + k, none⟩ = some (.slice Ak x.length ck) ∧ LR kdInt w' B Ak ck x := by
  obtain ⟨b, off, cs, rfl, hb, ⟨Ak, ck, rfl, hrk⟩, hc⟩ := (h.ext k' hB).2.2 k x hx
  refine ⟨b, off, Ak, ck, rfl, hb, ?_, hrk⟩
  have := hc 0 _ rfl
  rwa [show k * kdL.size + 0 = k from by show k * 1 + 0 = k; omega] at this

theorem LO.emptyL (w : World) : LO kdL 42 (w.alloc (.cells #[] 42)) (some ⟨w.heap.size, 0, none⟩) 0 [] [w.heap.size] :=
  ⟨[], [], Own.empty w 42 (Nat.zero_le _), rfl, rfl, by simp, rfl, by simp⟩
/-- A row of its own, as an element of a list. -/
theorem own_rowL {w : World} {lo n c : Nat} {A : Option Addr} {zs : List Int} (h : OwnI 3 w lo A n c zs) : kdL.own w [.slice A n c] zs (A.map (·.block)).toList := by
  have hl := h.len
  subst hl
  exact ⟨A, c, rfl, h.lo_⟩

set_option maxRecDepth 100000 in
set_option maxHeartbeats 2000000 in
theorem i.copyLists_c (A : Option Addr) (c B : Nat) (xs : List (List Int)) (w : World) (h : LR kdL w B A c xs) (hB : B ≤ w.heap.size) (hwt : kdLL.wt xs ≤ 1048576) :
    Calls Try.prog 76 #[.slice A xs.length c] w fun e w' => ∃ A' c' fp, e = .returned (.slice A' xs.length c') ∧ LO kdL 42 w' A' c' xs fp ∧ (∀ i ∈ fp, w.heap.size ≤ i) ∧ Ext w w' := by
  have H := hide h
  have hc1 := h.1; have hc2 := h.2.1
  have hlen := wtL_len kdL xs
  have hn : xs.length ≤ 1048576 := by have : kdLL.wt xs = wtL kdL xs := rfl; omega
  have HR : Hid (∀ x ∈ xs, x.length ≤ 1048576) := fun x hx => by
    obtain ⟨k, hk⟩ := List.getElem?_of_mem hx
    have h5 := wtL_at kdL xs k x hk
    have h6 : kdL.wt x = x.length := wtL_int x
    have : kdLL.wt xs = wtL kdL xs := rfl
    omega
  clear h hlen hwt
  obtain ⟨n, hn'⟩ : ∃ n, Hid (xs.length = n) := ⟨_, rfl⟩
  rw [hn'.out] at hn hc1 ⊢
  go_enter Try.func76, Try.ntmps76
  go_wp2
  go_loopw [3, 9] (fun o i wr => ∃ (k : Nat) (A' : Option Addr) (c' : Nat) (fp : List Nat), k ≤ n ∧ i = .int .i64 k ∧ o = .slice A' k c' ∧ LO kdL 42 wr A' c' (xs.take k) fp ∧ (∀ i ∈ fp, w.heap.size ≤ i) ∧ Ext w wr) (fun _ i _ => n - (intOf i).toNat)
  case atStart => exact ⟨0, _, _, _, Nat.zero_le _, rfl, rfl, LO.emptyL w, fun i hi => by simp at hi; omega, Ext.alloc w _⟩
  case round =>
    obtain ⟨k, A', c', fp, hk, rfl, rfl, hown, hfp, hx⟩ := hrel
    have HO := hide hown
    have HF := hide hfp
    have HX := hide hx
    clear hown hx hfp
    by_cases hlt : k < n
    · obtain ⟨x, hxk⟩ : ∃ x, Hid (xs[k]? = some x) := ⟨_, List.getElem?_eq_getElem (by rw [hn'.out]; exact hlt)⟩
      have hx9 := HR.out x (List.mem_of_getElem? hxk.out)
      obtain ⟨b, off, Ak, ck, rfl, hb, hck, hrk⟩ := H.out.rowL HX.out hB hxk.out
      have hq := i.copyInts_any Ak x.length ck B x wr hrk.sl (by have := HX.out.size; omega) hx9
      have HQ := hide hq
      have hz := hrk.1
      clear hq hrk
      have HK : Hid (xs.take (k + 1) = xs.take k ++ [x]) := by
        obtain ⟨hk', e⟩ := List.getElem?_eq_some_iff.1 hxk.out
        show _ = _
        rw [List.take_succ_eq_append_getElem hk', e]
      have HL : Hid ((xs.take k).length = k) := by show _ = _; rw [List.length_take, hn'.out]; omega
      obtain ⟨m, hm⟩ : ∃ m, Hid (x.length = m) := ⟨_, rfl⟩
      rw [hm.out] at hx9 hck hz HQ
      go_wp2_with fail
      refine HQ.out.mono ?_
      rintro e w1 ⟨A1, c1, rfl, o1, x1⟩
      have LO1 := hide ((HO.out.ext x1).ext (Ext.alloc w1 (.cells #[.slice A1 m c1] 42)))
      have KO1 := hide (kdL.own_ext (own_rowL o1) (Ext.alloc w1 (.cells #[.slice A1 m c1] 42)))
      have FL := hide (OwnI.fpLo o1)
      have X1 := hide ((HX.out.trans x1).trans (Ext.alloc w1 (.cells #[.slice A1 m c1] 42)))
      have LT := hide HO.out.lt
      have SZ := hide HX.out.size
      clear o1 x1 HQ HO
      go_wp2_with (at_builtin; refine wpList_append_LO (K := kdL) rfl (.tmp 13) (.tmp 16) rfl elemN_row (by decide) HL.out.symm rfl rfl LO1.out KO1.out ?d1 ?d2 ?d3 ?d4 ?_)
      case d1 => intro i hi hm; have := FL.out i hi; have := LT.out i hm; omega
      case d2 =>
        intro j u hu
        cases j with
        | zero => simp at hu; subst hu; simp [World.cell?_alloc_at]
        | succ j => simp at hu
      case d3 => omega
      case d4 => omega
      intro A2 c2 w2 fp2 hap
      have HA := hide hap
      clear hap
      go_wp2
      go_roundw
      case rel =>
        refine ⟨k + 1, A2, c2, fp2, by omega, by go_num, rfl, by rw [HK.out]; exact HA.out.own, fun i hi => ?_, X1.out.tchF HA.out.tch HF.out⟩
        have h4 := SZ.out
        have h5 := X1.out.size
        rcases HA.out.sub i hi with h | h | h
        · exact HF.out i h
        · have := FL.out i h; omega
        · rw [h]; exact h5
      case measure => simp [intOf]; omega
    · go_wp2
      go_ret
      have ek : k = n := by omega
      subst ek
      exact ⟨A', c', fp, rfl, by have := HO.out; rwa [List.take_of_length_le (by rw [hn'.out]; exact Nat.le_refl _)] at this, HF.out, HX.out⟩


theorem hob9 : ∀ (A : Option Addr) (n c : Nat), (Value.slice A n c).ownBlock = A.map (·.block) := fun A n c => by cases A <;> rfl
/-- 'append(own, src...)' with elements of several cells: the source is read wherever it lies. -/
theorem run_append_flat {P : Program} {t ty e : TypeId} {size bytes : Nat} {z : Value} {w : World} {lo n c m d : Nat} {A X : Option Addr} {vs news : List Value} (E : ElemN P t e size bytes z) (hs0 : 0 < size) (h : w.ownsRow lo e size (.slice A n c) n vs) (hl : news.length = m * size) (hX : m = 0 ∨ ∃ b off, X = some ⟨b, off, none⟩ ∧ ∀ j u, news[j]? = some u → w.cell? ⟨b, off + j, none⟩ = some u) (h1 : ∀ u ∈ news, u.oneCell' = true) (hb : (n + m) * bytes ≤ 140737488355328) (hm : n + m ≤ 4611686018427387904) (hlo : lo ≤ w.heap.size) :
    ∃ A' c' w', (Builtin.append_ #[t, t] ty #[.slice A n c, .slice X m d]).run P w = .ok (.slice A' (n + m) c') w' ∧ w'.ownsRow lo e size (.slice A' (n + m) c') (n + m) (vs ++ news) ∧ w.grownBy w' (A.map (·.block)) ∧ (A'.map (·.block) = A.map (·.block) ∨ A'.map (·.block) = some w.heap.size) := by
  obtain ⟨ht, i, hi, hz, hz1, hz2, hz3⟩ := E
  rcases X with _ | ad
  · have hm0 : m = 0 := by
      rcases hX with h0 | ⟨_, _, h0, _⟩
      · exact h0
      · cases h0
    subst hm0
    have hn : news = [] := List.eq_nil_of_length_eq_zero (by simpa using hl)
    subst hn
    refine ⟨A, c, w, ?_, by simpa using h, World.grownBy.refl w _, .inl rfl⟩
    rcases h.2 with ⟨hh, h0⟩ | ⟨g, cap, cur, hh, _, _, h3, _⟩
    · simp only [Value.slice.injEq] at hh
      obtain ⟨rfl, _, rfl⟩ := hh
      subst h0
      simp [Builtin.append_, run_underlying ht, sizeOf, typeInfo, hi, Builtin.lenOf, Builtin.firstCells]
    · simp only [Value.slice.injEq] at hh
      obtain ⟨rfl, _, rfl⟩ := hh
      simp [Builtin.append_, run_underlying ht, sizeOf, typeInfo, hi, Builtin.lenOf, Builtin.firstCells, h3, storeCells]
  · have hcells : ∀ j u, news[j]? = some u → w.cell? (ad.add j) = some u := by
      intro j u hu
      rcases hX with h0 | ⟨b, off, h0, hc⟩
      · subst h0
        have hn : news = [] := List.eq_nil_of_length_eq_zero (by simpa using hl)
        subst hn
        simp at hu
      · injection h0 with h0
        subst h0
        rw [add_none]
        exact hc j u hu
    obtain ⟨v', w', hrun, h2, h3, _, h5⟩ := run_append_own_at (P := P) w lo t ty e i z size bytes ht hi hz hz1 hz2 hz3 hs0 _ n vs h ad m d news hl hcells h1 (by unfold maxLen; omega) hb hlo
    have hv : ∃ A' c', v' = .slice A' (n + m) c' := by
      rcases h2.2 with ⟨rfl, h0⟩ | ⟨g, cap, cur, rfl, _⟩
      · exact ⟨none, 0, by rw [h0]⟩
      · exact ⟨_, _, rfl⟩
    obtain ⟨A', c', rfl⟩ := hv
    rw [hob9] at h3
    rw [hob9, hob9] at h5
    exact ⟨A', c', w', hrun, h2, h3, h5⟩
theorem step_append_flat {P : Program} {t e : TypeId} {size bytes : Nat} {z : Value} {w : World} {lo n c m d : Nat} {A X : Option Addr} {vs news : List Value} {ops : Array Oper} {o : Oper} {a : Act} {KK : Act → World → Prop} {Q : Exit → Act → World → Prop} {G : Prop} (hgd : o.guard = none) (s x : Operand)
    (ho : o.op = .call { callee := .builtin .append, args := #[s, x], argTypes := #[t, t] }) (E : ElemN P t e size bytes z) (hs0 : 0 < size)
    (hs' : a.eval s = .slice A n c) (hx' : a.eval x = .slice X m d) (h : w.ownsRow lo e size (.slice A n c) n vs) (hl : news.length = m * size) (hX : m = 0 ∨ ∃ b off, X = some ⟨b, off, none⟩ ∧ ∀ j u, news[j]? = some u → w.cell? ⟨b, off + j, none⟩ = some u) (h1 : ∀ u ∈ news, u.oneCell' = true) (hb : (n + m) * bytes ≤ 140737488355328) (hm : n + m ≤ 4611686018427387904) (hlo : lo ≤ w.heap.size)
    (hK : ∀ A' c' w', w'.ownsRow lo e size (.slice A' (n + m) c') (n + m) (vs ++ news) → w.grownBy w' (A.map (·.block)) → (A'.map (·.block) = A.map (·.block) ∨ A'.map (·.block) = some w.heap.size) → KK (a.put o.dst (.slice A' (n + m) c')) w') :
    if Region.wanted o (yielded ops a.tmps) = true then Oper.wp P o a w KK Q else G := by
  have hw : Region.wanted o (yielded ops a.tmps) = true := by simp [Region.wanted, hgd]
  rw [if_pos hw]
  obtain ⟨A', c', w', hrun, h2, h3, h4⟩ := run_append_flat (ty := o.type) (d := d) E hs0 h hl hX h1 hb hm hlo
  unfold Oper.wp execOp
  simp only [ho, resolve, invoke, builtin, Sem.run_bind, Sem.run_pure, Result.andThen_ok, List.map_toArray, List.map_cons, List.map_nil, hs', hx', hrun]
  exact hK A' c' w' h2 h3 h4
/-- A row of flat elements, as a list of its own. -/
theorem LO.flat {α : Type} {K : Kd α} {e : TypeId} {w : World} {A : Option Addr} {n c : Nat} {xs : List α} (cs : α → List Value) (hcs : ∀ x ∈ xs, K.own w (cs x) x []) (h : w.ownsRow 0 e K.size (.slice A n c) n (xs.map cs).flatten) (hn : n = xs.length) : LO K e w A c xs (A.map (·.block)).toList := by
  subst hn
  refine ⟨xs.map cs, xs.map (fun _ => []), h, by simp, by simp, ?_, ?_, ?_⟩
  · intro k ds x f h1 h2 h3
    rw [List.getElem?_map, h2] at h1 h3
    simp at h1 h3
    subst h1 h3
    exact hcs x (List.mem_of_getElem? h2)
  · have : (xs.map (fun _ => ([] : List Nat))).flatten = [] := by
      rw [List.flatten_eq_nil_iff]; simp
    rw [this]; simp
  · cases A <;> simp
end Go.Proofs.Ytofmfagdaiphaaa
