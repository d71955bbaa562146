/- The names that are chosen. -/
import Derived.Test.YtofmfagdaiphaaaNX
namespace Go.Proofs.Ytofmfagdaiphaaa
open Go.RowKit Go.Sort
set_option linter.unusedVariables false

def rowP (P : Nat → Nat → Bool) (i k : Nat) : List (List Int) := (List.range k).flatMap (fun j => if P i j then [[(i : Int), (j : Int)]] else [])
def pairsN (P : Nat → Nat → Bool) (xs : List ItD) (n : Nat) : List (List Int) := (List.range n).flatMap (fun i => rowP P i (namesAt xs i).length)
/-- The names that are chosen, as pairs. -/
def pairs (P : Nat → Nat → Bool) (xs : List ItD) : List (List Int) := pairsN P xs xs.length
theorem rowP_succ (P : Nat → Nat → Bool) (i k : Nat) : rowP P i (k + 1) = rowP P i k ++ (if P i k then [[(i : Int), (k : Int)]] else []) := by
  unfold rowP
  rw [List.range_succ, List.flatMap_append]
  simp
theorem pairsN_succ (P : Nat → Nat → Bool) (xs : List ItD) (n : Nat) : pairsN P xs (n + 1) = pairsN P xs n ++ rowP P n (namesAt xs n).length := by
  unfold pairsN
  rw [List.range_succ, List.flatMap_append]
  simp
theorem rowP_len (P : Nat → Nat → Bool) (i : Nat) : ∀ k, (rowP P i k).length ≤ k
  | 0 => by simp [rowP]
  | k + 1 => by
    have := rowP_len P i k
    rw [rowP_succ, List.length_append]
    split <;> simp <;> omega
theorem pairsN_len (P : Nat → Nat → Bool) (xs : List ItD) (h : ∀ i, (namesAt xs i).length ≤ 3) : ∀ n, (pairsN P xs n).length ≤ 3 * n
  | 0 => by simp [pairsN]
  | n + 1 => by
    have h1 := pairsN_len P xs h n
    have h2 := rowP_len P n (namesAt xs n).length
    have h3 := h n
    rw [pairsN_succ, List.length_append]
    omega
theorem names_three {xs : List ItD} (h : itemsB xs = true) (i : Nat) : (namesAt xs i).length ≤ 3 := by
  by_cases hi : i < xs.length
  · rw [namesAt_some (List.getElem?_eq_getElem hi)]
    simp only [itemsB, Bool.and_eq_true, List.all_eq_true] at h
    exact (itemB_ok (h.1 _ (List.getElem_mem hi))).2.1
  · unfold namesAt
    rw [List.getD_eq_getElem?_getD, List.getElem?_eq_none (by omega)]
    simp
theorem pair_own (w : World) (i k : Int) : kdL.own (w.alloc (.cells #[.int .i64 i, .int .i64 k] 3)) [.slice (some ⟨w.heap.size, 0, none⟩) 2 2] [i, k] [w.heap.size] := by
  have h : OwnI 3 (w.alloc (.cells #[.int .i64 i, .int .i64 k] 3)) 0 (some ⟨w.heap.size, 0, none⟩) 2 2 [i, k] := World.ownsRow_lit w #[.int .i64 i, .int .i64 k] 2 (Nat.zero_le _) (by unfold maxLen; omega) rfl
  exact ⟨some ⟨w.heap.size, 0, none⟩, 2, rfl, h.lo_⟩
theorem LO.emptyL (w : World) : LO kdL 42 (w.alloc (.cells #[] 42)) (some ⟨w.heap.size, 0, none⟩) 0 [] [w.heap.size] :=
  ⟨[], [], Own.empty w 42 (Nat.zero_le _), rfl, rfl, by simp, rfl, by simp⟩
theorem row_srcL (w : World) (u : Value) (t : TypeId) (H : Nat) (hH : w.heap.size = H) : ∀ j v, [u][j]? = some v → (w.alloc (.cells #[u] t)).cell? ⟨H, 0 + j, none⟩ = some v := by
  subst hH
  intro j v h
  cases j with
  | zero => simp at h; subst h; simp [World.cell?_alloc_at]
  | succ j => simp at h

set_option maxRecDepth 100000 in
set_option maxHeartbeats 4000000 in
theorem namesFinal (p q : Value) (P : Nat → Nat → Bool) (w : World) (A : Option Addr) (c B : Nat) (xs : List ItD) (h : LR kdItem w B A c xs) (hB : B ≤ w.heap.size) (hit : itemsB xs = true)
    (hC : ∀ (w' : World) (i k : Nat), Ext w w' → i < xs.length → k < (namesAt xs i).length → Calls Try.prog 63 #[.int .i64 i, .int .i64 k, p] w' fun e w'' => e = .returned (.bool (P i k)) ∧ Ext w' w'') :
    Calls Try.prog 62 #[.slice A xs.length c, .func (.func 63) #[] #[p]] w fun e w' => ∃ A' c' fp, e = .returned (.slice A' (pairs P xs).length c') ∧ LO kdL 42 w' A' c' (pairs P xs) fp ∧ (∀ i ∈ fp, w.heap.size ≤ i) ∧ Ext w w' := by
  have H := hide h
  have HC := hide hC
  have N3 := hide (names_three hit)
  have n1 : xs.length ≤ 14 := by simp [itemsB] at hit; omega
  have a1 := h.1; have a2 := h.2.1
  obtain ⟨n, hn⟩ : ∃ n, Hid (xs.length = n) := ⟨_, rfl⟩
  rw [hn.out] at n1 a1 HC ⊢
  clear h hC hit
  have X := hide (Ext.alloc w (.cells #[] 42))
  go_enter Try.func62, Try.ntmps62
  go_wp2
  go_loopw [5, 12] (fun o i wr => ∃ (ix : Nat) (A' : Option Addr) (c' : Nat) (fp : List Nat), ix ≤ n ∧ i = .int .i64 ix ∧ o = .slice A' (pairsN P xs ix).length c' ∧ LO kdL 42 wr A' c' (pairsN P xs ix) fp ∧ (∀ i ∈ fp, w.heap.size + 0 ≤ i) ∧  Ext w wr) (fun _ i _ => n - (intOf i).toNat)
  case atStart => exact ⟨0, _, _, _, Nat.zero_le _, rfl, rfl, LO.emptyL w, fun i hi => by simp at hi; omega, X.out⟩
  case round =>
    obtain ⟨ix, A1, c1, fp, hk, rfl, rfl, hown, hfp,  hx⟩ := hrel
    clear X
    have HO := hide hown
    have HF := hide hfp
    have X := hide hx
    clear hown hfp hx
    by_cases hlt : ix < n
    · obtain ⟨x, hxk⟩ : ∃ x, Hid (xs[ix]? = some x) := ⟨_, List.getElem?_eq_getElem (by rw [hn.out]; exact hlt)⟩
      obtain ⟨b, off, A3, c3, A4, c4, rfl, hb, q0, q1, q2, r1, r2⟩ := (H.out.ext X.out hB).item ix x hxk.out
      have NM := hide (namesAt_some hxk.out)
      have PS := hide (pairsN_succ P xs ix)
      have l3 := N3.out ix
      have ln := pairsN_len P xs N3.out ix
      have CL := hide (fun (w2 : World) (k : Nat) (x2 : Ext w w2) (hk : k < (namesAt xs ix).length) => HC.out w2 ix k x2 hlt hk)
      rw [NM.out] at l3 PS CL
      clear r1 r2 NM
      obtain ⟨m, hm⟩ : ∃ m, Hid (x.1.length = m) := ⟨_, rfl⟩
      rw [hm.out] at l3 PS CL q0
      obtain ⟨W1, hW1⟩ : ∃ W1, Hid (W1 = wr.alloc (.cells #[.slice A3 m c3, .slice A4 x.2.1.length c4, .bool x.2.2] 50)) := ⟨_, rfl⟩
      have x1 : Ext wr W1 := by rw [hW1.out]; exact Ext.alloc _ _
      have sz1 := X.out.size
      replace X := hide (X.out.trans x1)
      replace HO := hide (HO.out.ext x1)
      generalize hpl : pairsN P xs ix = pl at *
      clear x1 hpl
      generalize x.2.1.length = m1 at *
      generalize x.2.2 = m2 at *
      go_wp2
      rw [← hW1.out]
      clear hW1 q0 q1 q2
      go_loopw [5, 20] (fun o i wr => ∃ (k : Nat) (A' : Option Addr) (c' : Nat) (fp : List Nat), k ≤ m ∧ i = .int .i64 k ∧ o = .slice A' (pl ++ rowP P ix k).length c' ∧ LO kdL 42 wr A' c' (pl ++ rowP P ix k) fp ∧ (∀ i ∈ fp, w.heap.size + 0 ≤ i) ∧  Ext w wr) (fun _ i _ => m - (intOf i).toNat)
      case atStart => exact ⟨0, A1, c1, fp, Nat.zero_le _, rfl, by simp [rowP], by simpa [rowP] using HO.out, HF.out,  X.out⟩
      case round =>
        obtain ⟨k, A5, c5, fq, hk5, rfl, rfl, hown, hfp,  hx⟩ := hrel
        clear X HO HF
        have HO := hide hown
        have HF := hide hfp
        have X := hide hx
        clear hown hfp hx
        by_cases hltk : k < m
        · have CK := hide (CL.out wr k X.out hltk)
          have RS := hide (rowP_succ P ix k)
          have rl := rowP_len P ix k
          have hcap := HO.out.cap
          have LN : Hid ((pl ++ rowP P ix k).length ≤ 100) := by show _ ≤ _; rw [List.length_append]; omega
          generalize hpr : pl ++ rowP P ix k = pr at *
          have HPR := hide hpr
          clear hpr rl
          obtain ⟨L, hL⟩ : ∃ L, Hid (pr.length = L) := ⟨_, rfl⟩
          rw [hL.out] at hcap LN
          rw [hL.out]
          have hL1 : L ≤ 100 := LN.out
          clear LN
          obtain ⟨pb, hpb⟩ : ∃ pb, Hid (P ix k = pb) := ⟨_, rfl⟩
          rw [hpb.out] at CK RS
          go_wp2_with fail
          refine CK.out.mono ?_
          rintro e1 w2 ⟨rfl, x2⟩
          replace X := hide (X.out.trans x2)
          replace HO := hide (HO.out.ext x2)
          clear x2 CK
          cases pb
          · replace RS : Hid (pl ++ rowP P ix (k + 1) = pr) := by show _ = _; rw [RS.out, ← HPR.out]; simp
            go_wp2
            go_roundw
            case rel => exact ⟨k + 1, A5, c5, fq, by omega, by go_num, by rw [RS.out, hL.out], by rw [RS.out]; exact HO.out, HF.out,  X.out⟩
            case measure => simp [intOf]; omega
          · replace RS : Hid (pl ++ rowP P ix (k + 1) = pr ++ [[(ix : Int), (k : Int)]]) := by show _ = _; rw [RS.out, ← HPR.out]; simp
            have KO := hide (pair_own w2 ix k)
            have LT := hide HO.out.lt
            have LO1 := hide ((HO.out.ext (Ext.alloc w2 (.cells #[.int .i64 ix, .int .i64 k] 3))).ext (Ext.alloc _ (.cells #[.slice (some ⟨w2.heap.size, 0, none⟩) 2 2] 42)))
            have KO1 := hide (kdL.own_ext KO.out (Ext.alloc _ (.cells #[.slice (some ⟨w2.heap.size, 0, none⟩) 2 2] 42)))
            have XA : Hid (Ext w2 ((w2.alloc (.cells #[.int .i64 ix, .int .i64 k] 3)).alloc (.cells #[.slice (some ⟨w2.heap.size, 0, none⟩) 2 2] 42))) := (Ext.alloc _ _).trans (Ext.alloc _ _)
            have D2 := hide (row_srcL (w2.alloc (.cells #[.int .i64 ix, .int .i64 k] 3)) (.slice (some ⟨w2.heap.size, 0, none⟩) 2 2) 42 (w2.heap.size + 1) (by simp))
            have b1 : (L + 1) * 24 ≤ 140737488355328 := by omega
            have b2 : L + 1 ≤ 4611686018427387904 := by omega
            clear KO
            go_wp2_with (at_builtin; refine wpList_append_LO (K := kdL) rfl (.tmp 27) (.tmp 31) rfl elemN_row (by decide) hL.out.symm rfl rfl LO1.out KO1.out ?d1 D2.out b1 b2 ?_)
            case d1 => intro i hi hm; simp at hi; have := LT.out i hm; omega
            intro A7 c7 w7 fp7 hap
            have HA := hide hap
            clear hap
            go_wp2
            go_roundw
            case rel =>
              have sx := X.out.size
              have xs2 := XA.out.size
              refine ⟨k + 1, A7, c7, fp7, by omega, by go_num, by rw [RS.out, List.length_append, hL.out]; rfl, by rw [RS.out]; exact HA.out.own, fun i hi => ?_,  (X.out.trans XA.out).tchF HA.out.tch (fun i hi => by have := HF.out i hi; omega)⟩
              rcases HA.out.sub i hi with h | h | h
              · exact HF.out i h
              · simp at h; omega
              · rw [h]; omega
            case measure => simp [intOf]; omega
        · have ek : m = k := by omega
          subst ek
          rw [← PS.out] at *
          go_wp2
          go_roundw
          case rel => exact ⟨ix + 1, A5, c5, fq, by omega, by go_num, rfl, HO.out, HF.out,  X.out⟩
          case measure => simp [intOf]; omega
    · have ek : n = ix := by omega
      subst ek
      go_wp2
      go_ret
      exact ⟨A1, c1, fp, by rw [pairs, hn.out]; rfl, by rw [pairs, hn.out]; exact HO.out, fun i hi => by have := HF.out i hi; omega, X.out⟩

set_option maxRecDepth 100000 in
set_option maxHeartbeats 4000000 in
theorem namesOpen (p q : Value) (P : Nat → Nat → Bool) (w : World) (A : Option Addr) (c B : Nat) (xs : List ItD) (h : LR kdItem w B A c xs) (hB : B ≤ w.heap.size) (hit : itemsB xs = true)
    (hC : ∀ (w' : World) (i k : Nat), Ext w w' → i < xs.length → k < (namesAt xs i).length → Calls Try.prog 85 #[.int .i64 i, .int .i64 k, p] w' fun e w'' => e = .returned (.bool (P i k)) ∧ Ext w' w'') :
    Calls Try.prog 62 #[.slice A xs.length c, .func (.func 85) #[] #[p]] w fun e w' => ∃ A' c' fp, e = .returned (.slice A' (pairs P xs).length c') ∧ LO kdL 42 w' A' c' (pairs P xs) fp ∧ (∀ i ∈ fp, w.heap.size ≤ i) ∧ Ext w w' := by
  have H := hide h
  have HC := hide hC
  have N3 := hide (names_three hit)
  have n1 : xs.length ≤ 14 := by simp [itemsB] at hit; omega
  have a1 := h.1; have a2 := h.2.1
  obtain ⟨n, hn⟩ : ∃ n, Hid (xs.length = n) := ⟨_, rfl⟩
  rw [hn.out] at n1 a1 HC ⊢
  clear h hC hit
  have X := hide (Ext.alloc w (.cells #[] 42))
  go_enter Try.func62, Try.ntmps62
  go_wp2
  go_loopw [5, 12] (fun o i wr => ∃ (ix : Nat) (A' : Option Addr) (c' : Nat) (fp : List Nat), ix ≤ n ∧ i = .int .i64 ix ∧ o = .slice A' (pairsN P xs ix).length c' ∧ LO kdL 42 wr A' c' (pairsN P xs ix) fp ∧ (∀ i ∈ fp, w.heap.size + 0 ≤ i) ∧  Ext w wr) (fun _ i _ => n - (intOf i).toNat)
  case atStart => exact ⟨0, _, _, _, Nat.zero_le _, rfl, rfl, LO.emptyL w, fun i hi => by simp at hi; omega, X.out⟩
  case round =>
    obtain ⟨ix, A1, c1, fp, hk, rfl, rfl, hown, hfp,  hx⟩ := hrel
    clear X
    have HO := hide hown
    have HF := hide hfp
    have X := hide hx
    clear hown hfp hx
    by_cases hlt : ix < n
    · obtain ⟨x, hxk⟩ : ∃ x, Hid (xs[ix]? = some x) := ⟨_, List.getElem?_eq_getElem (by rw [hn.out]; exact hlt)⟩
      obtain ⟨b, off, A3, c3, A4, c4, rfl, hb, q0, q1, q2, r1, r2⟩ := (H.out.ext X.out hB).item ix x hxk.out
      have NM := hide (namesAt_some hxk.out)
      have PS := hide (pairsN_succ P xs ix)
      have l3 := N3.out ix
      have ln := pairsN_len P xs N3.out ix
      have CL := hide (fun (w2 : World) (k : Nat) (x2 : Ext w w2) (hk : k < (namesAt xs ix).length) => HC.out w2 ix k x2 hlt hk)
      rw [NM.out] at l3 PS CL
      clear r1 r2 NM
      obtain ⟨m, hm⟩ : ∃ m, Hid (x.1.length = m) := ⟨_, rfl⟩
      rw [hm.out] at l3 PS CL q0
      obtain ⟨W1, hW1⟩ : ∃ W1, Hid (W1 = wr.alloc (.cells #[.slice A3 m c3, .slice A4 x.2.1.length c4, .bool x.2.2] 50)) := ⟨_, rfl⟩
      have x1 : Ext wr W1 := by rw [hW1.out]; exact Ext.alloc _ _
      have sz1 := X.out.size
      replace X := hide (X.out.trans x1)
      replace HO := hide (HO.out.ext x1)
      generalize hpl : pairsN P xs ix = pl at *
      clear x1 hpl
      generalize x.2.1.length = m1 at *
      generalize x.2.2 = m2 at *
      go_wp2
      rw [← hW1.out]
      clear hW1 q0 q1 q2
      go_loopw [5, 20] (fun o i wr => ∃ (k : Nat) (A' : Option Addr) (c' : Nat) (fp : List Nat), k ≤ m ∧ i = .int .i64 k ∧ o = .slice A' (pl ++ rowP P ix k).length c' ∧ LO kdL 42 wr A' c' (pl ++ rowP P ix k) fp ∧ (∀ i ∈ fp, w.heap.size + 0 ≤ i) ∧  Ext w wr) (fun _ i _ => m - (intOf i).toNat)
      case atStart => exact ⟨0, A1, c1, fp, Nat.zero_le _, rfl, by simp [rowP], by simpa [rowP] using HO.out, HF.out,  X.out⟩
      case round =>
        obtain ⟨k, A5, c5, fq, hk5, rfl, rfl, hown, hfp,  hx⟩ := hrel
        clear X HO HF
        have HO := hide hown
        have HF := hide hfp
        have X := hide hx
        clear hown hfp hx
        by_cases hltk : k < m
        · have CK := hide (CL.out wr k X.out hltk)
          have RS := hide (rowP_succ P ix k)
          have rl := rowP_len P ix k
          have hcap := HO.out.cap
          have LN : Hid ((pl ++ rowP P ix k).length ≤ 100) := by show _ ≤ _; rw [List.length_append]; omega
          generalize hpr : pl ++ rowP P ix k = pr at *
          have HPR := hide hpr
          clear hpr rl
          obtain ⟨L, hL⟩ : ∃ L, Hid (pr.length = L) := ⟨_, rfl⟩
          rw [hL.out] at hcap LN
          rw [hL.out]
          have hL1 : L ≤ 100 := LN.out
          clear LN
          obtain ⟨pb, hpb⟩ : ∃ pb, Hid (P ix k = pb) := ⟨_, rfl⟩
          rw [hpb.out] at CK RS
          go_wp2_with fail
          refine CK.out.mono ?_
          rintro e1 w2 ⟨rfl, x2⟩
          replace X := hide (X.out.trans x2)
          replace HO := hide (HO.out.ext x2)
          clear x2 CK
          cases pb
          · replace RS : Hid (pl ++ rowP P ix (k + 1) = pr) := by show _ = _; rw [RS.out, ← HPR.out]; simp
            go_wp2
            go_roundw
            case rel => exact ⟨k + 1, A5, c5, fq, by omega, by go_num, by rw [RS.out, hL.out], by rw [RS.out]; exact HO.out, HF.out,  X.out⟩
            case measure => simp [intOf]; omega
          · replace RS : Hid (pl ++ rowP P ix (k + 1) = pr ++ [[(ix : Int), (k : Int)]]) := by show _ = _; rw [RS.out, ← HPR.out]; simp
            have KO := hide (pair_own w2 ix k)
            have LT := hide HO.out.lt
            have LO1 := hide ((HO.out.ext (Ext.alloc w2 (.cells #[.int .i64 ix, .int .i64 k] 3))).ext (Ext.alloc _ (.cells #[.slice (some ⟨w2.heap.size, 0, none⟩) 2 2] 42)))
            have KO1 := hide (kdL.own_ext KO.out (Ext.alloc _ (.cells #[.slice (some ⟨w2.heap.size, 0, none⟩) 2 2] 42)))
            have XA : Hid (Ext w2 ((w2.alloc (.cells #[.int .i64 ix, .int .i64 k] 3)).alloc (.cells #[.slice (some ⟨w2.heap.size, 0, none⟩) 2 2] 42))) := (Ext.alloc _ _).trans (Ext.alloc _ _)
            have D2 := hide (row_srcL (w2.alloc (.cells #[.int .i64 ix, .int .i64 k] 3)) (.slice (some ⟨w2.heap.size, 0, none⟩) 2 2) 42 (w2.heap.size + 1) (by simp))
            have b1 : (L + 1) * 24 ≤ 140737488355328 := by omega
            have b2 : L + 1 ≤ 4611686018427387904 := by omega
            clear KO
            go_wp2_with (at_builtin; refine wpList_append_LO (K := kdL) rfl (.tmp 27) (.tmp 31) rfl elemN_row (by decide) hL.out.symm rfl rfl LO1.out KO1.out ?d1 D2.out b1 b2 ?_)
            case d1 => intro i hi hm; simp at hi; have := LT.out i hm; omega
            intro A7 c7 w7 fp7 hap
            have HA := hide hap
            clear hap
            go_wp2
            go_roundw
            case rel =>
              have sx := X.out.size
              have xs2 := XA.out.size
              refine ⟨k + 1, A7, c7, fp7, by omega, by go_num, by rw [RS.out, List.length_append, hL.out]; rfl, by rw [RS.out]; exact HA.out.own, fun i hi => ?_,  (X.out.trans XA.out).tchF HA.out.tch (fun i hi => by have := HF.out i hi; omega)⟩
              rcases HA.out.sub i hi with h | h | h
              · exact HF.out i h
              · simp at h; omega
              · rw [h]; omega
            case measure => simp [intOf]; omega
        · have ek : m = k := by omega
          subst ek
          rw [← PS.out] at *
          go_wp2
          go_roundw
          case rel => exact ⟨ix + 1, A5, c5, fq, by omega, by go_num, rfl, HO.out, HF.out,  X.out⟩
          case measure => simp [intOf]; omega
    · have ek : n = ix := by omega
      subst ek
      go_wp2
      go_ret
      exact ⟨A1, c1, fp, by rw [pairs, hn.out]; rfl, by rw [pairs, hn.out]; exact HO.out, fun i hi => by have := HF.out i hi; omega, X.out⟩

set_option maxRecDepth 100000 in
set_option maxHeartbeats 4000000 in
theorem namesDiss (p q : Value) (P : Nat → Nat → Bool) (w : World) (A : Option Addr) (c B : Nat) (xs : List ItD) (h : LR kdItem w B A c xs) (hB : B ≤ w.heap.size) (hit : itemsB xs = true)
    (hC : ∀ (w' : World) (i k : Nat), Ext w w' → i < xs.length → k < (namesAt xs i).length → Calls Try.prog 65 #[.int .i64 i, .int .i64 k, p, q] w' fun e w'' => e = .returned (.bool (P i k)) ∧ Ext w' w'') :
    Calls Try.prog 62 #[.slice A xs.length c, .func (.func 65) #[] #[p, q]] w fun e w' => ∃ A' c' fp, e = .returned (.slice A' (pairs P xs).length c') ∧ LO kdL 42 w' A' c' (pairs P xs) fp ∧ (∀ i ∈ fp, w.heap.size ≤ i) ∧ Ext w w' := by
  have H := hide h
  have HC := hide hC
  have N3 := hide (names_three hit)
  have n1 : xs.length ≤ 14 := by simp [itemsB] at hit; omega
  have a1 := h.1; have a2 := h.2.1
  obtain ⟨n, hn⟩ : ∃ n, Hid (xs.length = n) := ⟨_, rfl⟩
  rw [hn.out] at n1 a1 HC ⊢
  clear h hC hit
  have X := hide (Ext.alloc w (.cells #[] 42))
  go_enter Try.func62, Try.ntmps62
  go_wp2
  go_loopw [5, 12] (fun o i wr => ∃ (ix : Nat) (A' : Option Addr) (c' : Nat) (fp : List Nat), ix ≤ n ∧ i = .int .i64 ix ∧ o = .slice A' (pairsN P xs ix).length c' ∧ LO kdL 42 wr A' c' (pairsN P xs ix) fp ∧ (∀ i ∈ fp, w.heap.size + 0 ≤ i) ∧  Ext w wr) (fun _ i _ => n - (intOf i).toNat)
  case atStart => exact ⟨0, _, _, _, Nat.zero_le _, rfl, rfl, LO.emptyL w, fun i hi => by simp at hi; omega, X.out⟩
  case round =>
    obtain ⟨ix, A1, c1, fp, hk, rfl, rfl, hown, hfp,  hx⟩ := hrel
    clear X
    have HO := hide hown
    have HF := hide hfp
    have X := hide hx
    clear hown hfp hx
    by_cases hlt : ix < n
    · obtain ⟨x, hxk⟩ : ∃ x, Hid (xs[ix]? = some x) := ⟨_, List.getElem?_eq_getElem (by rw [hn.out]; exact hlt)⟩
      obtain ⟨b, off, A3, c3, A4, c4, rfl, hb, q0, q1, q2, r1, r2⟩ := (H.out.ext X.out hB).item ix x hxk.out
      have NM := hide (namesAt_some hxk.out)
      have PS := hide (pairsN_succ P xs ix)
      have l3 := N3.out ix
      have ln := pairsN_len P xs N3.out ix
      have CL := hide (fun (w2 : World) (k : Nat) (x2 : Ext w w2) (hk : k < (namesAt xs ix).length) => HC.out w2 ix k x2 hlt hk)
      rw [NM.out] at l3 PS CL
      clear r1 r2 NM
      obtain ⟨m, hm⟩ : ∃ m, Hid (x.1.length = m) := ⟨_, rfl⟩
      rw [hm.out] at l3 PS CL q0
      obtain ⟨W1, hW1⟩ : ∃ W1, Hid (W1 = wr.alloc (.cells #[.slice A3 m c3, .slice A4 x.2.1.length c4, .bool x.2.2] 50)) := ⟨_, rfl⟩
      have x1 : Ext wr W1 := by rw [hW1.out]; exact Ext.alloc _ _
      have sz1 := X.out.size
      replace X := hide (X.out.trans x1)
      replace HO := hide (HO.out.ext x1)
      generalize hpl : pairsN P xs ix = pl at *
      clear x1 hpl
      generalize x.2.1.length = m1 at *
      generalize x.2.2 = m2 at *
      go_wp2
      rw [← hW1.out]
      clear hW1 q0 q1 q2
      go_loopw [5, 20] (fun o i wr => ∃ (k : Nat) (A' : Option Addr) (c' : Nat) (fp : List Nat), k ≤ m ∧ i = .int .i64 k ∧ o = .slice A' (pl ++ rowP P ix k).length c' ∧ LO kdL 42 wr A' c' (pl ++ rowP P ix k) fp ∧ (∀ i ∈ fp, w.heap.size + 0 ≤ i) ∧  Ext w wr) (fun _ i _ => m - (intOf i).toNat)
      case atStart => exact ⟨0, A1, c1, fp, Nat.zero_le _, rfl, by simp [rowP], by simpa [rowP] using HO.out, HF.out,  X.out⟩
      case round =>
        obtain ⟨k, A5, c5, fq, hk5, rfl, rfl, hown, hfp,  hx⟩ := hrel
        clear X HO HF
        have HO := hide hown
        have HF := hide hfp
        have X := hide hx
        clear hown hfp hx
        by_cases hltk : k < m
        · have CK := hide (CL.out wr k X.out hltk)
          have RS := hide (rowP_succ P ix k)
          have rl := rowP_len P ix k
          have hcap := HO.out.cap
          have LN : Hid ((pl ++ rowP P ix k).length ≤ 100) := by show _ ≤ _; rw [List.length_append]; omega
          generalize hpr : pl ++ rowP P ix k = pr at *
          have HPR := hide hpr
          clear hpr rl
          obtain ⟨L, hL⟩ : ∃ L, Hid (pr.length = L) := ⟨_, rfl⟩
          rw [hL.out] at hcap LN
          rw [hL.out]
          have hL1 : L ≤ 100 := LN.out
          clear LN
          obtain ⟨pb, hpb⟩ : ∃ pb, Hid (P ix k = pb) := ⟨_, rfl⟩
          rw [hpb.out] at CK RS
          go_wp2_with fail
          refine CK.out.mono ?_
          rintro e1 w2 ⟨rfl, x2⟩
          replace X := hide (X.out.trans x2)
          replace HO := hide (HO.out.ext x2)
          clear x2 CK
          cases pb
          · replace RS : Hid (pl ++ rowP P ix (k + 1) = pr) := by show _ = _; rw [RS.out, ← HPR.out]; simp
            go_wp2
            go_roundw
            case rel => exact ⟨k + 1, A5, c5, fq, by omega, by go_num, by rw [RS.out, hL.out], by rw [RS.out]; exact HO.out, HF.out,  X.out⟩
            case measure => simp [intOf]; omega
          · replace RS : Hid (pl ++ rowP P ix (k + 1) = pr ++ [[(ix : Int), (k : Int)]]) := by show _ = _; rw [RS.out, ← HPR.out]; simp
            have KO := hide (pair_own w2 ix k)
            have LT := hide HO.out.lt
            have LO1 := hide ((HO.out.ext (Ext.alloc w2 (.cells #[.int .i64 ix, .int .i64 k] 3))).ext (Ext.alloc _ (.cells #[.slice (some ⟨w2.heap.size, 0, none⟩) 2 2] 42)))
            have KO1 := hide (kdL.own_ext KO.out (Ext.alloc _ (.cells #[.slice (some ⟨w2.heap.size, 0, none⟩) 2 2] 42)))
            have XA : Hid (Ext w2 ((w2.alloc (.cells #[.int .i64 ix, .int .i64 k] 3)).alloc (.cells #[.slice (some ⟨w2.heap.size, 0, none⟩) 2 2] 42))) := (Ext.alloc _ _).trans (Ext.alloc _ _)
            have D2 := hide (row_srcL (w2.alloc (.cells #[.int .i64 ix, .int .i64 k] 3)) (.slice (some ⟨w2.heap.size, 0, none⟩) 2 2) 42 (w2.heap.size + 1) (by simp))
            have b1 : (L + 1) * 24 ≤ 140737488355328 := by omega
            have b2 : L + 1 ≤ 4611686018427387904 := by omega
            clear KO
            go_wp2_with (at_builtin; refine wpList_append_LO (K := kdL) rfl (.tmp 27) (.tmp 31) rfl elemN_row (by decide) hL.out.symm rfl rfl LO1.out KO1.out ?d1 D2.out b1 b2 ?_)
            case d1 => intro i hi hm; simp at hi; have := LT.out i hm; omega
            intro A7 c7 w7 fp7 hap
            have HA := hide hap
            clear hap
            go_wp2
            go_roundw
            case rel =>
              have sx := X.out.size
              have xs2 := XA.out.size
              refine ⟨k + 1, A7, c7, fp7, by omega, by go_num, by rw [RS.out, List.length_append, hL.out]; rfl, by rw [RS.out]; exact HA.out.own, fun i hi => ?_,  (X.out.trans XA.out).tchF HA.out.tch (fun i hi => by have := HF.out i hi; omega)⟩
              rcases HA.out.sub i hi with h | h | h
              · exact HF.out i h
              · simp at h; omega
              · rw [h]; omega
            case measure => simp [intOf]; omega
        · have ek : m = k := by omega
          subst ek
          rw [← PS.out] at *
          go_wp2
          go_roundw
          case rel => exact ⟨ix + 1, A5, c5, fq, by omega, by go_num, rfl, HO.out, HF.out,  X.out⟩
          case measure => simp [intOf]; omega
    · have ek : n = ix := by omega
      subst ek
      go_wp2
      go_ret
      exact ⟨A1, c1, fp, by rw [pairs, hn.out]; rfl, by rw [pairs, hn.out]; exact HO.out, fun i hi => by have := HF.out i hi; omega, X.out⟩

set_option maxRecDepth 100000 in
set_option maxHeartbeats 4000000 in
theorem namesChg (p q : Value) (P : Nat → Nat → Bool) (w : World) (A : Option Addr) (c B : Nat) (xs : List ItD) (h : LR kdItem w B A c xs) (hB : B ≤ w.heap.size) (hit : itemsB xs = true)
    (hC : ∀ (w' : World) (i k : Nat), Ext w w' → i < xs.length → k < (namesAt xs i).length → Calls Try.prog 70 #[.int .i64 i, .int .i64 k, p, q] w' fun e w'' => e = .returned (.bool (P i k)) ∧ Ext w' w'') :
    Calls Try.prog 62 #[.slice A xs.length c, .func (.func 70) #[] #[p, q]] w fun e w' => ∃ A' c' fp, e = .returned (.slice A' (pairs P xs).length c') ∧ LO kdL 42 w' A' c' (pairs P xs) fp ∧ (∀ i ∈ fp, w.heap.size ≤ i) ∧ Ext w w' := by
  have H := hide h
  have HC := hide hC
  have N3 := hide (names_three hit)
  have n1 : xs.length ≤ 14 := by simp [itemsB] at hit; omega
  have a1 := h.1; have a2 := h.2.1
  obtain ⟨n, hn⟩ : ∃ n, Hid (xs.length = n) := ⟨_, rfl⟩
  rw [hn.out] at n1 a1 HC ⊢
  clear h hC hit
  have X := hide (Ext.alloc w (.cells #[] 42))
  go_enter Try.func62, Try.ntmps62
  go_wp2
  go_loopw [5, 12] (fun o i wr => ∃ (ix : Nat) (A' : Option Addr) (c' : Nat) (fp : List Nat), ix ≤ n ∧ i = .int .i64 ix ∧ o = .slice A' (pairsN P xs ix).length c' ∧ LO kdL 42 wr A' c' (pairsN P xs ix) fp ∧ (∀ i ∈ fp, w.heap.size + 0 ≤ i) ∧  Ext w wr) (fun _ i _ => n - (intOf i).toNat)
  case atStart => exact ⟨0, _, _, _, Nat.zero_le _, rfl, rfl, LO.emptyL w, fun i hi => by simp at hi; omega, X.out⟩
  case round =>
    obtain ⟨ix, A1, c1, fp, hk, rfl, rfl, hown, hfp,  hx⟩ := hrel
    clear X
    have HO := hide hown
    have HF := hide hfp
    have X := hide hx
    clear hown hfp hx
    by_cases hlt : ix < n
    · obtain ⟨x, hxk⟩ : ∃ x, Hid (xs[ix]? = some x) := ⟨_, List.getElem?_eq_getElem (by rw [hn.out]; exact hlt)⟩
      obtain ⟨b, off, A3, c3, A4, c4, rfl, hb, q0, q1, q2, r1, r2⟩ := (H.out.ext X.out hB).item ix x hxk.out
      have NM := hide (namesAt_some hxk.out)
      have PS := hide (pairsN_succ P xs ix)
      have l3 := N3.out ix
      have ln := pairsN_len P xs N3.out ix
      have CL := hide (fun (w2 : World) (k : Nat) (x2 : Ext w w2) (hk : k < (namesAt xs ix).length) => HC.out w2 ix k x2 hlt hk)
      rw [NM.out] at l3 PS CL
      clear r1 r2 NM
      obtain ⟨m, hm⟩ : ∃ m, Hid (x.1.length = m) := ⟨_, rfl⟩
      rw [hm.out] at l3 PS CL q0
      obtain ⟨W1, hW1⟩ : ∃ W1, Hid (W1 = wr.alloc (.cells #[.slice A3 m c3, .slice A4 x.2.1.length c4, .bool x.2.2] 50)) := ⟨_, rfl⟩
      have x1 : Ext wr W1 := by rw [hW1.out]; exact Ext.alloc _ _
      have sz1 := X.out.size
      replace X := hide (X.out.trans x1)
      replace HO := hide (HO.out.ext x1)
      generalize hpl : pairsN P xs ix = pl at *
      clear x1 hpl
      generalize x.2.1.length = m1 at *
      generalize x.2.2 = m2 at *
      go_wp2
      rw [← hW1.out]
      clear hW1 q0 q1 q2
      go_loopw [5, 20] (fun o i wr => ∃ (k : Nat) (A' : Option Addr) (c' : Nat) (fp : List Nat), k ≤ m ∧ i = .int .i64 k ∧ o = .slice A' (pl ++ rowP P ix k).length c' ∧ LO kdL 42 wr A' c' (pl ++ rowP P ix k) fp ∧ (∀ i ∈ fp, w.heap.size + 0 ≤ i) ∧  Ext w wr) (fun _ i _ => m - (intOf i).toNat)
      case atStart => exact ⟨0, A1, c1, fp, Nat.zero_le _, rfl, by simp [rowP], by simpa [rowP] using HO.out, HF.out,  X.out⟩
      case round =>
        obtain ⟨k, A5, c5, fq, hk5, rfl, rfl, hown, hfp,  hx⟩ := hrel
        clear X HO HF
        have HO := hide hown
        have HF := hide hfp
        have X := hide hx
        clear hown hfp hx
        by_cases hltk : k < m
        · have CK := hide (CL.out wr k X.out hltk)
          have RS := hide (rowP_succ P ix k)
          have rl := rowP_len P ix k
          have hcap := HO.out.cap
          have LN : Hid ((pl ++ rowP P ix k).length ≤ 100) := by show _ ≤ _; rw [List.length_append]; omega
          generalize hpr : pl ++ rowP P ix k = pr at *
          have HPR := hide hpr
          clear hpr rl
          obtain ⟨L, hL⟩ : ∃ L, Hid (pr.length = L) := ⟨_, rfl⟩
          rw [hL.out] at hcap LN
          rw [hL.out]
          have hL1 : L ≤ 100 := LN.out
          clear LN
          obtain ⟨pb, hpb⟩ : ∃ pb, Hid (P ix k = pb) := ⟨_, rfl⟩
          rw [hpb.out] at CK RS
          go_wp2_with fail
          refine CK.out.mono ?_
          rintro e1 w2 ⟨rfl, x2⟩
          replace X := hide (X.out.trans x2)
          replace HO := hide (HO.out.ext x2)
          clear x2 CK
          cases pb
          · replace RS : Hid (pl ++ rowP P ix (k + 1) = pr) := by show _ = _; rw [RS.out, ← HPR.out]; simp
            go_wp2
            go_roundw
            case rel => exact ⟨k + 1, A5, c5, fq, by omega, by go_num, by rw [RS.out, hL.out], by rw [RS.out]; exact HO.out, HF.out,  X.out⟩
            case measure => simp [intOf]; omega
          · replace RS : Hid (pl ++ rowP P ix (k + 1) = pr ++ [[(ix : Int), (k : Int)]]) := by show _ = _; rw [RS.out, ← HPR.out]; simp
            have KO := hide (pair_own w2 ix k)
            have LT := hide HO.out.lt
            have LO1 := hide ((HO.out.ext (Ext.alloc w2 (.cells #[.int .i64 ix, .int .i64 k] 3))).ext (Ext.alloc _ (.cells #[.slice (some ⟨w2.heap.size, 0, none⟩) 2 2] 42)))
            have KO1 := hide (kdL.own_ext KO.out (Ext.alloc _ (.cells #[.slice (some ⟨w2.heap.size, 0, none⟩) 2 2] 42)))
            have XA : Hid (Ext w2 ((w2.alloc (.cells #[.int .i64 ix, .int .i64 k] 3)).alloc (.cells #[.slice (some ⟨w2.heap.size, 0, none⟩) 2 2] 42))) := (Ext.alloc _ _).trans (Ext.alloc _ _)
            have D2 := hide (row_srcL (w2.alloc (.cells #[.int .i64 ix, .int .i64 k] 3)) (.slice (some ⟨w2.heap.size, 0, none⟩) 2 2) 42 (w2.heap.size + 1) (by simp))
            have b1 : (L + 1) * 24 ≤ 140737488355328 := by omega
            have b2 : L + 1 ≤ 4611686018427387904 := by omega
            clear KO
            go_wp2_with (at_builtin; refine wpList_append_LO (K := kdL) rfl (.tmp 27) (.tmp 31) rfl elemN_row (by decide) hL.out.symm rfl rfl LO1.out KO1.out ?d1 D2.out b1 b2 ?_)
            case d1 => intro i hi hm; simp at hi; have := LT.out i hm; omega
            intro A7 c7 w7 fp7 hap
            have HA := hide hap
            clear hap
            go_wp2
            go_roundw
            case rel =>
              have sx := X.out.size
              have xs2 := XA.out.size
              refine ⟨k + 1, A7, c7, fp7, by omega, by go_num, by rw [RS.out, List.length_append, hL.out]; rfl, by rw [RS.out]; exact HA.out.own, fun i hi => ?_,  (X.out.trans XA.out).tchF HA.out.tch (fun i hi => by have := HF.out i hi; omega)⟩
              rcases HA.out.sub i hi with h | h | h
              · exact HF.out i h
              · simp at h; omega
              · rw [h]; omega
            case measure => simp [intOf]; omega
        · have ek : m = k := by omega
          subst ek
          rw [← PS.out] at *
          go_wp2
          go_roundw
          case rel => exact ⟨ix + 1, A5, c5, fq, by omega, by go_num, rfl, HO.out, HF.out,  X.out⟩
          case measure => simp [intOf]; omega
    · have ek : n = ix := by omega
      subst ek
      go_wp2
      go_ret
      exact ⟨A1, c1, fp, by rw [pairs, hn.out]; rfl, by rw [pairs, hn.out]; exact HO.out, fun i hi => by have := HF.out i hi; omega, X.out⟩

def openP (d : ShD) (i k : Nat) : Bool := decide (callF d i k < 0)
set_option maxRecDepth 100000 in
set_option maxHeartbeats 4000000 in
theorem s.caOpen_m (w : World) (v : Value) (d : ShD) (h : kSh.rd w v d) (hok : kSh.ok d) (hs : sheetB d = true) :
    Calls Try.prog 60 #[v] w fun e w' => ∃ A' c' fp, e = .returned (.slice A' (pairs (openP d) d.1).length c') ∧ LO kdL 42 w' A' c' (pairs (openP d) d.1) fp ∧ (∀ i ∈ fp, w.heap.size ≤ i) ∧ Ext w w' := by
  obtain ⟨A, c, A', c', D, e, rfl, h1, h2, h3⟩ := kSh.lr h
  have hit : itemsB d.1 = true := by simp only [sheetB, cleanB, Bool.and_eq_true] at hs; exact hs.1.1.1.1.1
  have HC := hide (fun (w2 : World) (i k : Nat) (x2 : Ext w w2) (hi : i < d.1.length) (hk : k < (namesAt d.1 i).length) => s.caCall_m w2 _ d i k (kSh.rd_ext h x2) hok hs hi hk)
  have H := hide h1
  have N3 := hide (names_three hit)
  have n1 : d.1.length ≤ 14 := by simp [itemsB] at hit; omega
  have a1 := h1.1; have a2 := h1.2.1
  clear h h1 h2 h3 hit hs
  obtain ⟨n, hn⟩ : ∃ n, Hid (d.1.length = n) := ⟨_, rfl⟩
  obtain ⟨n', hn'⟩ : ∃ n', Hid (d.2.1.length = n') := ⟨_, rfl⟩
  obtain ⟨m', hm'⟩ : ∃ n', Hid (d.2.2.length = n') := ⟨_, rfl⟩
  rw [hn.out] at n1 a1
  rw [hn.out, hn'.out, hm'.out] at HC ⊢
  obtain ⟨xs, hxs⟩ : ∃ xs, Hid (d.1 = xs) := ⟨_, rfl⟩
  obtain ⟨P, hP⟩ : ∃ P, P = openP d := ⟨_, rfl⟩
  rw [hxs.out] at hn H N3 HC ⊢
  rw [← hP]
  obtain ⟨W0, hW0⟩ : ∃ W0, Hid (W0 = w.alloc (.cells #[.slice A n c, .slice A' n' c', .slice D m' e] 28)) := ⟨_, rfl⟩
  have X : Hid (Ext w W0) := by rw [hW0.out]; exact Ext.alloc w _
  have B0 : Hid (Blk W0 w.heap.size #[.slice A n c, .slice A' n' c', .slice D m' e] 28) := by rw [hW0.out]; exact Blk.new rfl _ _
  have HPP : Hid (∀ i k, P i k = decide (callF d i k < 0)) := fun i k => by rw [hP]; rfl
  clear hP
  go_enter Try.func60, Try.ntmps60
  go_wp2
  rw [← hW0.out]
  clear hW0
  obtain ⟨BX, hBX⟩ : ∃ BX : Array Value, Hid (BX = #[.slice A n c, .slice A' n' c', .slice D m' e]) := ⟨_, rfl⟩
  rw [← hBX.out] at B0
  go_loopw [3, 10] (fun o i wr => ∃ (ix : Nat) (A' : Option Addr) (c' : Nat) (fp : List Nat), ix ≤ n ∧ i = .int .i64 ix ∧ o = .slice A' (pairsN P xs ix).length c' ∧ LO kdL 42 wr A' c' (pairsN P xs ix) fp ∧ (∀ i ∈ fp, w.heap.size + 1 ≤ i) ∧ Blk wr w.heap.size BX 28 ∧ Ext w wr) (fun _ i _ => n - (intOf i).toNat)
  case atStart => exact ⟨0, none, 0, [], Nat.zero_le _, rfl, rfl, LO.none_, by simp, B0.out, X.out⟩
  case round =>
    obtain ⟨ix, A1, c1, fp, hk, rfl, rfl, hown, hfp, hb0, hx⟩ := hrel
    clear X B0
    have HO := hide hown
    have HF := hide hfp
    have X := hide hx
    have B0 := hide hb0
    clear hb0
    clear hown hfp hx
    by_cases hlt : ix < n
    · obtain ⟨x, hxk⟩ : ∃ x, Hid (xs[ix]? = some x) := ⟨_, List.getElem?_eq_getElem (by rw [hn.out]; exact hlt)⟩
      obtain ⟨b, off, A3, c3, A4, c4, rfl, hb, q0, q1, q2, r1, r2⟩ := (H.out.ext X.out (Nat.le_refl _)).item ix x hxk.out
      have NM := hide (namesAt_some hxk.out)
      have PS := hide (pairsN_succ P xs ix)
      have l3 := N3.out ix
      have ln := pairsN_len P xs N3.out ix
      have CL := hide (fun (w2 : World) (k : Nat) (x2 : Ext w w2) (hk : k < (namesAt xs ix).length) => HC.out w2 ix k x2 hlt hk)
      rw [NM.out] at l3 PS CL
      clear r1 r2 NM
      obtain ⟨m, hm⟩ : ∃ m, Hid (x.1.length = m) := ⟨_, rfl⟩
      rw [hm.out] at l3 PS CL q0
      obtain ⟨W1, hW1⟩ : ∃ W1, Hid (W1 = wr.alloc (.cells #[.slice A3 m c3, .slice A4 x.2.1.length c4, .bool x.2.2] 50)) := ⟨_, rfl⟩
      have x1 : Ext wr W1 := by rw [hW1.out]; exact Ext.alloc _ _
      have sz1 := X.out.size
      replace X := hide (X.out.trans x1)
      replace HO := hide (HO.out.ext x1)
      replace B0 := hide (B0.out.ext x1)
      generalize hpl : pairsN P xs ix = pl at *
      clear x1 hpl
      generalize x.2.1.length = m1 at *
      generalize x.2.2 = m2 at *
      go_wp2
      rw [← hW1.out]
      clear hW1 q0 q1 q2
      go_loopw [3, 18] (fun o i wr => ∃ (k : Nat) (A' : Option Addr) (c' : Nat) (fp : List Nat), k ≤ m ∧ i = .int .i64 k ∧ o = .slice A' (pl ++ rowP P ix k).length c' ∧ LO kdL 42 wr A' c' (pl ++ rowP P ix k) fp ∧ (∀ i ∈ fp, w.heap.size + 1 ≤ i) ∧ Blk wr w.heap.size BX 28 ∧ Ext w wr) (fun _ i _ => m - (intOf i).toNat)
      case atStart => exact ⟨0, A1, c1, fp, Nat.zero_le _, rfl, by simp [rowP], by simpa [rowP] using HO.out, HF.out, B0.out, X.out⟩
      case round =>
        obtain ⟨k, A5, c5, fq, hk5, rfl, rfl, hown, hfp, hb0, hx⟩ := hrel
        clear X HO HF B0
        have HO := hide hown
        have HF := hide hfp
        have X := hide hx
        have B0 := hide hb0
        clear hb0
        clear hown hfp hx
        by_cases hltk : k < m
        · have CK := hide (CL.out wr k X.out hltk)
          have RS := hide (rowP_succ P ix k)
          have rl := rowP_len P ix k
          have hcap := HO.out.cap
          have LN : Hid ((pl ++ rowP P ix k).length ≤ 100) := by show _ ≤ _; rw [List.length_append]; omega
          generalize hpr : pl ++ rowP P ix k = pr at *
          have HPR := hide hpr
          clear hpr rl
          obtain ⟨L, hL⟩ : ∃ L, Hid (pr.length = L) := ⟨_, rfl⟩
          rw [hL.out] at hcap LN
          rw [hL.out]
          have hL1 : L ≤ 100 := LN.out
          clear LN
          obtain ⟨pb, hpb⟩ : ∃ pb, Hid (P ix k = pb) := ⟨_, rfl⟩
          rw [hpb.out] at RS
          have PB : Hid (decide (callF d ix k < 0) = pb) := (HPP.out ix k).symm.trans hpb.out
          generalize callF d ix k = cl at *
          have cB := B0.out.cell
          rw [hBX.out] at cB
          go_wp2_with fail
          refine CK.out.mono ?_
          rintro e1 w2 ⟨rfl, x2⟩
          replace X := hide (X.out.trans x2)
          replace HO := hide (HO.out.ext x2)
          replace B0 := hide (B0.out.ext x2)
          clear x2 CK cB hpb
          have hcl := PB.out
          clear PB
          cases pb
          · replace RS : Hid (pl ++ rowP P ix (k + 1) = pr) := by show _ = _; rw [RS.out, ← HPR.out]; simp
            go_wp2
            go_roundw
            case rel => exact ⟨k + 1, A5, c5, fq, by omega, by go_num, by rw [RS.out, hL.out], by rw [RS.out]; exact HO.out, HF.out, B0.out, X.out⟩
            case measure => simp [intOf]; omega
          · replace RS : Hid (pl ++ rowP P ix (k + 1) = pr ++ [[(ix : Int), (k : Int)]]) := by show _ = _; rw [RS.out, ← HPR.out]; simp
            have KO := hide (pair_own w2 ix k)
            have LT := hide HO.out.lt
            have LO1 := hide ((HO.out.ext (Ext.alloc w2 (.cells #[.int .i64 ix, .int .i64 k] 3))).ext (Ext.alloc _ (.cells #[.slice (some ⟨w2.heap.size, 0, none⟩) 2 2] 42)))
            have KO1 := hide (kdL.own_ext KO.out (Ext.alloc _ (.cells #[.slice (some ⟨w2.heap.size, 0, none⟩) 2 2] 42)))
            have XA : Hid (Ext w2 ((w2.alloc (.cells #[.int .i64 ix, .int .i64 k] 3)).alloc (.cells #[.slice (some ⟨w2.heap.size, 0, none⟩) 2 2] 42))) := (Ext.alloc _ _).trans (Ext.alloc _ _)
            have D2 := hide (row_srcL (w2.alloc (.cells #[.int .i64 ix, .int .i64 k] 3)) (.slice (some ⟨w2.heap.size, 0, none⟩) 2 2) 42 (w2.heap.size + 1) (by simp))
            have b1 : (L + 1) * 24 ≤ 140737488355328 := by omega
            have b2 : L + 1 ≤ 4611686018427387904 := by omega
            clear KO
            go_wp2_with (at_builtin; refine wpList_append_LO (K := kdL) rfl (.tmp 26) (.tmp 30) rfl elemN_row (by decide) hL.out.symm rfl rfl LO1.out KO1.out ?d1 D2.out b1 b2 ?_)
            case d1 => intro i hi hm; simp at hi; have := LT.out i hm; omega
            intro A7 c7 w7 fp7 hap
            have HA := hide hap
            clear hap
            go_wp2
            go_roundw
            case rel =>
              have sx := X.out.size
              have xs2 := XA.out.size
              refine ⟨k + 1, A7, c7, fp7, by omega, by go_num, by rw [RS.out, List.length_append, hL.out]; rfl, by rw [RS.out]; exact HA.out.own, fun i hi => ?_, ((B0.out.ext XA.out).tchF HA.out.tch (fun h => by have := HF.out _ h; omega)), (X.out.trans XA.out).tchF HA.out.tch (fun i hi => by have := HF.out i hi; omega)⟩
              rcases HA.out.sub i hi with h | h | h
              · exact HF.out i h
              · simp at h; have := B0.out.lt; omega
              · rw [h]; have := B0.out.lt; omega
            case measure => simp [intOf]; omega
        · have ek : m = k := by omega
          subst ek
          rw [← PS.out] at *
          go_wp2
          go_roundw
          case rel => exact ⟨ix + 1, A5, c5, fq, by omega, by go_num, rfl, HO.out, HF.out, B0.out, X.out⟩
          case measure => simp [intOf]; omega
    · have ek : n = ix := by omega
      subst ek
      go_wp2
      go_ret
      exact ⟨A1, c1, fp, by rw [pairs, hn.out]; rfl, by rw [pairs, hn.out]; exact HO.out, fun i hi => by have := HF.out i hi; omega, X.out⟩
end Go.Proofs.Ytofmfagdaiphaaa
