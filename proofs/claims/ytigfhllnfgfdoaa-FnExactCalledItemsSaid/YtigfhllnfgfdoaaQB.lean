/- Items with their calls: the program's and the reference's function. -/
import Derived.Test.YtigfhllnfgfdoaaQA
namespace Go.Proofs.Ytigfhllnfgfdoaa
open Go.RowKit Go.Sort
set_option linter.unusedVariables false

def calJ (d : ShD) (k : Nat) (x : ItD) (j : Nat) : List ItD := (calN d k).set k (x.1, pM d k x.2.1 j, x.2.2)
theorem calJ_at (d : ShD) (k : Nat) (x : ItD) (j : Nat) (h : k < d.1.length) : (calJ d k x j)[k]? = some (x.1, pM d k x.2.1 j, x.2.2) := by
  unfold calJ
  rw [List.getElem?_set_self (by rw [calN_len]; exact h)]
theorem calJ_zero (d : ShD) (k : Nat) (x : ItD) (h : d.1[k]? = some x) : calJ d k x 0 = calN d k := by
  obtain ⟨hk, e⟩ := List.getElem?_eq_some_iff.1 h
  have h2 := calN_at d k hk
  rw [h] at h2
  obtain ⟨hk2, e2⟩ := List.getElem?_eq_some_iff.1 h2
  unfold calJ
  rw [pM_zero]
  conv => rhs; rw [← List.set_getElem_self hk2]
  rw [e2]
theorem calJ_all (d : ShD) (k : Nat) (x : ItD) (h : d.1[k]? = some x) (j : Nat) (hj : j = x.2.1.length) : calJ d k x j = calN d (k + 1) := by
  subst hj
  rw [← calN_set d k x h]
  unfold calJ calIt
  rw [pM_all]
theorem calJ_set (d : ShD) (k : Nat) (x : ItD) (j : Nat) (h : j < x.2.1.length) : (calJ d k x j).set k (x.1, (pM d k x.2.1 j).set j (callF d k j), x.2.2) = calJ d k x (j + 1) := by
  unfold calJ
  rw [List.set_set, pM_set d k _ j h]
theorem LO.headI {e : TypeId} {w : World} {A : Option Addr} {c : Nat} {xs : List ItD} {fp : List Nat} (h : LO kdItem e w A c xs fp) (k : Nat) (x : ItD) (hx : xs[k]? = some x) (hj : 0 < x.2.1.length) :
    ∃ g A1 c1 gx c2, A = some ⟨g, 0, none⟩ ∧ g ∈ fp ∧ w.cell? ⟨g, k * 3, none⟩ = some (.slice A1 x.1.length c1) ∧ w.cell? ⟨g, k * 3 + 1, none⟩ = some (.slice (some ⟨gx, 0, none⟩) x.2.1.length c2) ∧ w.cell? ⟨g, k * 3 + 2, none⟩ = some (.bool x.2.2) ∧ x.2.1.length ≤ c2 ∧ c2 ≤ 9223372036854775807 := by
  obtain ⟨g, A1, c1, gx, c2, e1, e2, _, _, e5, e6, e7, e8, e9, _⟩ := h.spotI k x hx 0 hj
  exact ⟨g, A1, c1, gx, c2, e1, e2, e5, e6, e7, e8, e9⟩
theorem LO.spotG {e : TypeId} {w : World} {g c m c2 gx : Nat} {xs : List ItD} {fp : List Nat} (h : LO kdItem e w (some ⟨g, 0, none⟩) c xs fp) (k : Nat) (x : ItD) (hx : xs[k]? = some x) (j : Nat) (hj : j < x.2.1.length) (hc : w.cell? ⟨g, k * 3 + 1, none⟩ = some (.slice (some ⟨gx, 0, none⟩) m c2)) :
    gx ∈ fp ∧ gx ≠ g ∧ w.cell? ⟨gx, j, none⟩ = some (.int .i64 (x.2.1.getD j 0)) ∧ w.frozen? ⟨gx, j, none⟩ = false ∧ ∀ z, LO kdItem e (w.setCell ⟨gx, j, none⟩ (.int .i64 z)) (some ⟨g, 0, none⟩) c (xs.set k (x.1, x.2.1.set j z, x.2.2)) fp := by
  obtain ⟨g', A1, c1, gx', c2', e1, e2, e3, e4, e5, e6, e7, e8, e9, e10, e11, e12⟩ := h.spotI k x hx j hj
  simp only [Option.some.injEq, Addr.mk.injEq, and_true] at e1
  subst e1
  rw [hc] at e6
  simp at e6
  obtain ⟨rfl, _⟩ := e6
  exact ⟨e3, e4, e10, e11, e12⟩

set_option maxRecDepth 100000 in
set_option maxHeartbeats 4000000 in
theorem i.calledItems_m (w : World) (v : Value) (d : ShD) (h : kSh.rd w v d) (hok : kSh.ok d) (hs : sheetB d = true) :
    Calls Try.prog 100 #[v] w fun e w' => ∃ A' c' fp, e = .returned (.slice A' d.1.length c') ∧ LO kdItem 87 w' A' c' (calF d) fp ∧ (∀ i ∈ fp, w.heap.size ≤ i) ∧ Ext w w' := by
  obtain ⟨A, c, A', c', D, e, rfl, h1, h2, h3⟩ := kSh.lr h
  have hok' : kdSh.wt d ≤ 1048576 := hok
  rw [kdSh.wt_eq] at hok'
  have hw1 : wtL kdItem d.1 ≤ 1048576 := by have : kdItS.wt d.1 = wtL kdItem d.1 := rfl; omega
  have hit : itemsB d.1 = true := by simp only [sheetB, cleanB, Bool.and_eq_true] at hs; exact hs.1.1.1.1.1
  have IT : Hid (∀ (k : Nat) (x : ItD), d.1[k]? = some x → 1 ≤ x.1.length ∧ x.1.length ≤ 3 ∧ x.2.1.length = x.1.length) := fun k x hx => by
    simp only [itemsB, Bool.and_eq_true, List.all_eq_true] at hit
    exact itemB_ok (hit.1 x (List.mem_of_getElem? hx))
  have k14 : d.1.length ≤ 14 := by simp only [itemsB, Bool.and_eq_true, decide_eq_true_eq] at hit; omega
  have CL : Hid (∀ (wq : World) (ix kx : Nat) (x : ItD), Ext w wq → d.1[ix]? = some x → kx < x.1.length → Calls Try.prog 75 #[.agg #[.slice A d.1.length c, .slice A' d.2.1.length c', .slice D d.2.2.length e], .int .i64 ix, .int .i64 kx] wq fun e w' => e = .returned (.int .i64 (callF d ix kx)) ∧ Ext wq w') := fun wq ix kx x xq hx hk => by
    obtain ⟨hi, _⟩ := List.getElem?_eq_some_iff.1 hx
    exact i.callOf_m wq _ d ix kx (kSh.rd_ext h xq) hok hs hi (by rw [namesAt_some hx]; exact hk)
  have CI := hide (fun (wq : World) (xq : Ext w wq) => i.copyItems_any wq A c w.heap.size d.1 (h1.ext xq (Nat.le_refl _)) xq.size hw1)
  have a1 := h1.1; have a2 := h1.2.1
  clear h h1 h2 h3 hok' hw1 hs hit
  obtain ⟨n, hn⟩ : ∃ n, Hid (d.1.length = n) := ⟨_, rfl⟩
  obtain ⟨n', hn'⟩ : ∃ n', Hid (d.2.1.length = n') := ⟨_, rfl⟩
  obtain ⟨m', hm'⟩ : ∃ n', Hid (d.2.2.length = n') := ⟨_, rfl⟩
  rw [hn.out] at a1 k14
  rw [hn.out] at CI
  rw [hn.out, hn'.out, hm'.out] at CL
  rw [hn.out, hn'.out, hm'.out]
  obtain ⟨W0, hW0⟩ : ∃ W0, Hid (W0 = w.alloc (.cells #[.slice A n c, .slice A' n' c', .slice D m' e] 32)) := ⟨_, rfl⟩
  have X : Hid (Ext w W0) := by rw [hW0.out]; exact Ext.alloc w _
  have B0 : Hid (Blk W0 w.heap.size #[.slice A n c, .slice A' n' c', .slice D m' e] 32) := by rw [hW0.out]; exact Blk.new rfl _ _
  have cBn : ∀ i, (w.alloc (.cells #[.slice A n c, .slice A' n' c', .slice D m' e] 32)).cell? ⟨w.heap.size, i, none⟩ = #[Value.slice A n c, .slice A' n' c', .slice D m' e][i]? := by rw [← hW0.out]; exact B0.out.cell
  go_enter Try.func100, Try.ntmps100
  go_wp2_with fail
  rw [← hW0.out]
  clear hW0 cBn
  refine (CI.out W0 X.out).mono ?_
  rintro e1 w2 ⟨A9, c9, fp, rfl, hl, hf, x2⟩
  have hcap := hl.cap
  rw [hn.out] at hcap
  have HL := hide hl
  have z0 := B0.out.lt
  have HFP : Hid (∀ i ∈ fp, w.heap.size < i) := fun i hi => Nat.lt_of_lt_of_le z0 (hf i hi)
  replace X := hide (X.out.trans x2)
  replace B0 := hide (B0.out.ext x2)
  clear hl hf x2 CI z0
  go_wp2
  go_loopw [12] (fun i0 wr => ∃ (k : Nat), k ≤ n ∧ i0 = .int .i64 k ∧ LO kdItem 87 wr A9 c9 (calN d k) fp ∧ Blk wr w.heap.size #[.slice A n c, .slice A' n' c', .slice D m' e] 32 ∧ Ext w wr) (fun i0 _ => n - (intOf i0).toNat)
  case atStart => exact ⟨0, Nat.zero_le _, rfl, by rw [calN_zero]; exact HL.out, B0.out, X.out⟩
  case round =>
    obtain ⟨k, hk, rfl, hl, hb, hx⟩ := hrel
    clear HL B0 X
    have HL := hide hl
    have B0 := hide hb
    have X := hide hx
    clear hl hb hx
    by_cases hlt : k < n
    · obtain ⟨x, hxk⟩ : ∃ x, Hid (d.1[k]? = some x) := ⟨_, List.getElem?_eq_getElem (by rw [hn.out]; exact hlt)⟩
      obtain ⟨y1, y2, y3⟩ := IT.out k x hxk.out
      obtain ⟨g, A1, c1, gx, c2, rfl, hg, q0, q1, q2, q3, q4⟩ := HL.out.headI k x (by rw [calN_at d k (by rw [hn.out]; exact hlt), hxk.out]) (by omega)
      obtain ⟨W1, hW1⟩ : ∃ W1, Hid (W1 = wr.alloc (.cells #[.slice A1 x.1.length c1, .slice (some ⟨gx, 0, none⟩) x.2.1.length c2, .bool x.2.2] 87)) := ⟨_, rfl⟩
      have x1 : Ext wr W1 := by rw [hW1.out]; exact Ext.alloc _ _
      have BV : Hid (Blk W1 wr.heap.size #[.slice A1 x.1.length c1, .slice (some ⟨gx, 0, none⟩) x.2.1.length c2, .bool x.2.2] 87) := by rw [hW1.out]; exact Blk.new rfl _ _
      have HC : Hid (W1.cell? ⟨g, k * 3 + 1, none⟩ = some (.slice (some ⟨gx, 0, none⟩) x.2.1.length c2)) := (x1.cell (HL.out.lt g hg)).trans q1
      have LT := hide HL.out.lt
      have gvp : w.heap.size < wr.heap.size := B0.out.lt
      have cBn : ∀ i, (wr.alloc (.cells #[.slice A1 x.1.length c1, .slice (some ⟨gx, 0, none⟩) x.2.1.length c2, .bool x.2.2] 87)).cell? ⟨wr.heap.size, i, none⟩ = #[Value.slice A1 x.1.length c1, .slice (some ⟨gx, 0, none⟩) x.2.1.length c2, .bool x.2.2][i]? := by rw [← hW1.out]; exact BV.out.cell
      have J0 := hide (calJ_zero d k x hxk.out)
      have JA := hide (calJ_all d k x hxk.out)
      have JT := hide (fun (j : Nat) => calJ_at d k x j (by rw [hn.out]; exact hlt))
      have JS := hide (fun (j : Nat) => calJ_set d k x j)
      have PL := hide (fun (j : Nat) => pM_len d k x.2.1 j)
      replace HL := hide (HL.out.ext x1)
      replace B0 := hide (B0.out.ext x1)
      replace X := hide (X.out.trans x1)
      clear x1
      obtain ⟨m, hm⟩ : ∃ m, Hid (x.2.1.length = m) := ⟨_, rfl⟩
      rw [hm.out] at q1 q3 y3 BV HC hW1 cBn JS PL JA
      have CK := hide (fun (wq : World) (kx : Nat) (xq : Ext w wq) (hk : kx < m) => CL.out wq k kx x xq hxk.out (by omega))
      have y4 : m ≤ 3 := by omega
      clear y3
      generalize x.1.length = m1 at *
      generalize x.2.2 = m3 at *
      go_wp2
      rw [← hW1.out]
      clear hW1 cBn q0 q1 q2
      obtain ⟨gv, hgv⟩ : ∃ gv, Hid (gv = wr.heap.size) := ⟨_, rfl⟩
      rw [← hgv.out] at BV LT gvp ⊢
      go_loopw [20] (fun j0 wq => ∃ (j : Nat), j ≤ m ∧ j0 = .int .i64 j ∧ LO kdItem 87 wq (some ⟨g, 0, none⟩) c9 (calJ d k x j) fp ∧ wq.cell? ⟨g, k * 3 + 1, none⟩ = some (.slice (some ⟨gx, 0, none⟩) m c2) ∧ Blk wq gv #[.slice A1 m1 c1, .slice (some ⟨gx, 0, none⟩) m c2, .bool m3] 87 ∧ Blk wq w.heap.size #[.slice A n c, .slice A' n' c', .slice D m' e] 32 ∧ Ext w wq) (fun j0 _ => m - (intOf j0).toNat)
      case atStart => exact ⟨0, Nat.zero_le _, rfl, by rw [J0.out]; exact HL.out, HC.out, BV.out, B0.out, X.out⟩
      case round =>
        obtain ⟨j, hj, rfl, hl, hc, hbv, hb, hx⟩ := hrel
        clear HL B0 X HC BV
        have HL := hide hl
        have HC := hide hc
        have BV := hide hbv
        have B0 := hide hb
        have X := hide hx
        clear hl hc hbv hb hx
        have cV := BV.out.cell
        have cB := B0.out.cell
        by_cases hltj : j < m
        · have SP := hide (fun (wq' : World) (xq : Ext wr wq') => (HL.out.ext xq).spotG k _ (JT.out j) j (by show j < (pM d k x.2.1 j).length; rw [PL.out j (by omega)]; exact hltj) ((xq.cell (HL.out.lt g hg)).trans HC.out))
          obtain ⟨s1, s2, _⟩ := SP.out wr (Ext.refl wr)
          have s3 := HFP.out gx s1
          have s4 := LT.out gx s1
          have CA := hide (fun (wq' : World) (xq : Ext w wq') => CK.out wq' j xq hltj)
          have HS9 := hide (JS.out j hltj)
          have HGL := hide (HL.out.lt g hg)
          clear CK
          generalize callF d k j = C at *
          go_wp2
          go_region_held3 (fun w' => (∀ i, w'.cell? ⟨w.heap.size, i, none⟩ = #[Value.slice A n c, .slice A' n' c', .slice D m' e][i]?) ∧ ∀ i, w'.cell? ⟨gv, i, none⟩ = #[Value.slice A1 m1 c1, .slice (some ⟨gx, 0, none⟩) m c2, .bool m3][i]?)
            (first | exact ⟨((B0.out.ext Y5.out).far (by simp; omega) _).cell, ((BV.out.ext Y5.out).far (by simp; omega) _).cell⟩ | exact ⟨(B0.out.ext Y5.out).cell, (BV.out.ext Y5.out).cell⟩ | exact ⟨cB, cV⟩)
            (first | (go_at_call 75; refine (CA.out wr.drew (X.out.trans (Ext.drew wr))).mono ?_; rintro e1 w5 ⟨rfl, x5⟩; have Y5 := hide ((Ext.drew wr).trans x5); obtain ⟨_, _, t5, t6, _⟩ := SP.out w5 Y5.out; clear x5))
          replace HL := hide ((SP.out w5 Y5.out).2.2.2.2 C)
          replace B0 := hide ((B0.out.ext Y5.out).far (p := ⟨gx, j, none⟩) (by simp; omega) (.int .i64 C))
          replace BV := hide ((BV.out.ext Y5.out).far (p := ⟨gx, j, none⟩) (by simp; omega) (.int .i64 C))
          replace X : Hid (Ext w (w5.setCell ⟨gx, j, none⟩ (.int .i64 C))) := Below.setCell (X.out.trans Y5.out) (by simp; omega) _
          replace HC : Hid ((w5.setCell ⟨gx, j, none⟩ (.int .i64 C)).cell? ⟨g, k * 3 + 1, none⟩ = some (.slice (some ⟨gx, 0, none⟩) m c2)) := by
            have e9 := World.cell?_of_block (w := w5) (w' := w5.setCell ⟨gx, j, none⟩ (.int .i64 C)) (a := ⟨g, k * 3 + 1, none⟩) (Below.heap_setCell _ _ _ _ (fun e9 => s2 e9.symm))
            exact e9.trans ((Y5.out.cell HGL.out).trans HC.out)
          rw [HS9.out] at HL
          generalize w5.setCell ⟨gx, j, none⟩ (.int .i64 C) = w6 at *
          clear SP Y5 t5 t6 cB cV
          go_wp2
          go_roundw
          case rel => exact ⟨j + 1, by omega, by go_num, HL.out, HC.out, BV.out, B0.out, X.out⟩
          case measure => simp [intOf]; omega
        · have ej : m = j := by omega
          subst ej
          go_wp2
          go_roundw
          case rel => exact ⟨k + 1, by omega, by go_num, by rw [← JA.out m rfl]; exact HL.out, B0.out, X.out⟩
          case measure => simp [intOf]; omega
    · have ek : n = k := by omega
      subst ek
      go_wp2
      go_ret
      exact ⟨A9, c9, fp, rfl, by have h8 := HL.out; rwa [calN_all d n (by rw [hn.out]; exact Nat.le_refl _)] at h8, fun i hi => Nat.le_of_lt (HFP.out i hi), X.out⟩

set_option maxRecDepth 100000 in
set_option maxHeartbeats 4000000 in
theorem s.caItems_m (w : World) (v : Value) (d : ShD) (h : kSh.rd w v d) (hok : kSh.ok d) (hs : sheetB d = true) :
    Calls Try.prog 99 #[v] w fun e w' => ∃ A' c' fp, e = .returned (.slice A' d.1.length c') ∧ LO kdItem 87 w' A' c' (calF d) fp ∧ (∀ i ∈ fp, w.heap.size ≤ i) ∧ Ext w w' := by
  obtain ⟨A, c, A', c', D, e, rfl, h1, h2, h3⟩ := kSh.lr h
  have hok' : kdSh.wt d ≤ 1048576 := hok
  rw [kdSh.wt_eq] at hok'
  have hw1 : wtL kdItem d.1 ≤ 1048576 := by have : kdItS.wt d.1 = wtL kdItem d.1 := rfl; omega
  have hit : itemsB d.1 = true := by simp only [sheetB, cleanB, Bool.and_eq_true] at hs; exact hs.1.1.1.1.1
  have IT : Hid (∀ (k : Nat) (x : ItD), d.1[k]? = some x → 1 ≤ x.1.length ∧ x.1.length ≤ 3 ∧ x.2.1.length = x.1.length) := fun k x hx => by
    simp only [itemsB, Bool.and_eq_true, List.all_eq_true] at hit
    exact itemB_ok (hit.1 x (List.mem_of_getElem? hx))
  have k14 : d.1.length ≤ 14 := by simp only [itemsB, Bool.and_eq_true, decide_eq_true_eq] at hit; omega
  have CL : Hid (∀ (wq : World) (ix kx : Nat) (x : ItD), Ext w wq → d.1[ix]? = some x → kx < x.1.length → Calls Try.prog 74 #[.agg #[.slice A d.1.length c, .slice A' d.2.1.length c', .slice D d.2.2.length e], .int .i64 ix, .int .i64 kx] wq fun e w' => e = .returned (.int .i64 (callF d ix kx)) ∧ Ext wq w') := fun wq ix kx x xq hx hk => by
    obtain ⟨hi, _⟩ := List.getElem?_eq_some_iff.1 hx
    exact s.caCall_m wq _ d ix kx (kSh.rd_ext h xq) hok hs hi (by rw [namesAt_some hx]; exact hk)
  have CI := hide (fun (wq : World) (xq : Ext w wq) => s.itOwn_any wq A c w.heap.size d.1 (h1.ext xq (Nat.le_refl _)) xq.size hw1)
  have a1 := h1.1; have a2 := h1.2.1
  clear h h1 h2 h3 hok' hw1 hs hit
  obtain ⟨n, hn⟩ : ∃ n, Hid (d.1.length = n) := ⟨_, rfl⟩
  obtain ⟨n', hn'⟩ : ∃ n', Hid (d.2.1.length = n') := ⟨_, rfl⟩
  obtain ⟨m', hm'⟩ : ∃ n', Hid (d.2.2.length = n') := ⟨_, rfl⟩
  rw [hn.out] at a1 k14
  rw [hn.out] at CI
  rw [hn.out, hn'.out, hm'.out] at CL
  rw [hn.out, hn'.out, hm'.out]
  obtain ⟨W0, hW0⟩ : ∃ W0, Hid (W0 = w.alloc (.cells #[.slice A n c, .slice A' n' c', .slice D m' e] 32)) := ⟨_, rfl⟩
  have X : Hid (Ext w W0) := by rw [hW0.out]; exact Ext.alloc w _
  have B0 : Hid (Blk W0 w.heap.size #[.slice A n c, .slice A' n' c', .slice D m' e] 32) := by rw [hW0.out]; exact Blk.new rfl _ _
  have cBn : ∀ i, (w.alloc (.cells #[.slice A n c, .slice A' n' c', .slice D m' e] 32)).cell? ⟨w.heap.size, i, none⟩ = #[Value.slice A n c, .slice A' n' c', .slice D m' e][i]? := by rw [← hW0.out]; exact B0.out.cell
  go_enter Try.func99, Try.ntmps99
  go_wp2_with fail
  rw [← hW0.out]
  clear hW0 cBn
  refine (CI.out W0 X.out).mono ?_
  rintro e1 w2 ⟨A9, c9, fp, rfl, hl, hf, x2⟩
  have hcap := hl.cap
  rw [hn.out] at hcap
  have HL := hide hl
  have z0 := B0.out.lt
  have HFP : Hid (∀ i ∈ fp, w.heap.size < i) := fun i hi => Nat.lt_of_lt_of_le z0 (hf i hi)
  replace X := hide (X.out.trans x2)
  replace B0 := hide (B0.out.ext x2)
  clear hl hf x2 CI z0
  go_wp2
  go_loopw [11] (fun i0 wr => ∃ (k : Nat), k ≤ n ∧ i0 = .int .i64 k ∧ LO kdItem 87 wr A9 c9 (calN d k) fp ∧ Blk wr w.heap.size #[.slice A n c, .slice A' n' c', .slice D m' e] 32 ∧ Ext w wr) (fun i0 _ => n - (intOf i0).toNat)
  case atStart => exact ⟨0, Nat.zero_le _, rfl, by rw [calN_zero]; exact HL.out, B0.out, X.out⟩
  case round =>
    obtain ⟨k, hk, rfl, hl, hb, hx⟩ := hrel
    clear HL B0 X
    have HL := hide hl
    have B0 := hide hb
    have X := hide hx
    clear hl hb hx
    by_cases hlt : k < n
    · obtain ⟨x, hxk⟩ : ∃ x, Hid (d.1[k]? = some x) := ⟨_, List.getElem?_eq_getElem (by rw [hn.out]; exact hlt)⟩
      obtain ⟨y1, y2, y3⟩ := IT.out k x hxk.out
      obtain ⟨g, A1, c1, gx, c2, rfl, hg, q0, q1, q2, q3, q4⟩ := HL.out.headI k x (by rw [calN_at d k (by rw [hn.out]; exact hlt), hxk.out]) (by omega)
      have HC := hide q1
      have LT := hide HL.out.lt
      have J0 := hide (calJ_zero d k x hxk.out)
      have JA := hide (calJ_all d k x hxk.out)
      have JT := hide (fun (j : Nat) => calJ_at d k x j (by rw [hn.out]; exact hlt))
      have JS := hide (fun (j : Nat) => calJ_set d k x j)
      have PL := hide (fun (j : Nat) => pM_len d k x.2.1 j)
      obtain ⟨m, hm⟩ : ∃ m, Hid (x.2.1.length = m) := ⟨_, rfl⟩
      rw [hm.out] at q1 q3 y3 HC JS PL JA
      have CK := hide (fun (wq : World) (kx : Nat) (xq : Ext w wq) (hk : kx < m) => CL.out wq k kx x xq hxk.out (by omega))
      have y4 : m ≤ 3 := by omega
      clear y3
      generalize x.1.length = m1 at *
      generalize x.2.2 = m3 at *
      go_wp2
      clear q0 q1 q2
      go_loopw [20] (fun j0 wq => ∃ (j : Nat), j ≤ m ∧ j0 = .int .i64 j ∧ LO kdItem 87 wq (some ⟨g, 0, none⟩) c9 (calJ d k x j) fp ∧ wq.cell? ⟨g, k * 3 + 1, none⟩ = some (.slice (some ⟨gx, 0, none⟩) m c2) ∧ Blk wq w.heap.size #[.slice A n c, .slice A' n' c', .slice D m' e] 32 ∧ Ext w wq) (fun j0 _ => m - (intOf j0).toNat)
      case atStart => exact ⟨0, Nat.zero_le _, rfl, by rw [J0.out]; exact HL.out, HC.out, B0.out, X.out⟩
      case round =>
        obtain ⟨j, hj, rfl, hl, hc, hb, hx⟩ := hrel
        clear HL B0 X HC
        have HL := hide hl
        have HC := hide hc
        have B0 := hide hb
        have X := hide hx
        clear hl hc hb hx
        have cV := HC.out
        have cB := B0.out.cell
        by_cases hltj : j < m
        · have SP := hide (fun (wq' : World) (xq : Ext wr wq') => (HL.out.ext xq).spotG k _ (JT.out j) j (by show j < (pM d k x.2.1 j).length; rw [PL.out j (by omega)]; exact hltj) ((xq.cell (HL.out.lt g hg)).trans HC.out))
          obtain ⟨s1, s2, _⟩ := SP.out wr (Ext.refl wr)
          have s3 := HFP.out gx s1
          have s4 := LT.out gx s1
          have CA := hide (fun (wq' : World) (xq : Ext w wq') => CK.out wq' j xq hltj)
          have HS9 := hide (JS.out j hltj)
          have HGL := hide (HL.out.lt g hg)
          clear CK
          generalize callF d k j = C at *
          go_wp2
          go_region_held3 (fun w' => (∀ i, w'.cell? ⟨w.heap.size, i, none⟩ = #[Value.slice A n c, .slice A' n' c', .slice D m' e][i]?) ∧ w'.cell? ⟨g, k * 3 + 1, none⟩ = some (.slice (some ⟨gx, 0, none⟩) m c2))
            (first | exact ⟨((B0.out.ext Y5.out).far (by simp; omega) _).cell, HC6.out⟩ | exact ⟨(B0.out.ext Y5.out).cell, ((Y5.out.cell HGL.out).trans HC.out)⟩ | exact ⟨cB, cV⟩)
            (first | (go_at_call 74; refine (CA.out wr.drew (X.out.trans (Ext.drew wr))).mono ?_; rintro e1 w5 ⟨rfl, x5⟩; have Y5 := hide ((Ext.drew wr).trans x5); obtain ⟨_, _, t5, t6, _⟩ := SP.out w5 Y5.out; have HC6 : Hid ((w5.setCell ⟨gx, j, none⟩ (.int .i64 C)).cell? ⟨g, k * 3 + 1, none⟩ = some (.slice (some ⟨gx, 0, none⟩) m c2)) := (World.cell?_of_block (w := w5) (w' := w5.setCell ⟨gx, j, none⟩ (.int .i64 C)) (a := ⟨g, k * 3 + 1, none⟩) (Below.heap_setCell _ _ _ _ (fun e9 => s2 e9.symm))).trans ((Y5.out.cell HGL.out).trans HC.out); clear x5))
          replace HL := hide ((SP.out w5 Y5.out).2.2.2.2 C)
          replace B0 := hide ((B0.out.ext Y5.out).far (p := ⟨gx, j, none⟩) (by simp; omega) (.int .i64 C))
          replace X : Hid (Ext w (w5.setCell ⟨gx, j, none⟩ (.int .i64 C))) := Below.setCell (X.out.trans Y5.out) (by simp; omega) _
          replace HC := HC6
          rw [HS9.out] at HL
          generalize w5.setCell ⟨gx, j, none⟩ (.int .i64 C) = w6 at *
          clear SP Y5 t5 t6 cB cV
          go_wp2
          go_roundw
          case rel => exact ⟨j + 1, by omega, by go_num, HL.out, HC.out, B0.out, X.out⟩
          case measure => simp [intOf]; omega
        · have ej : m = j := by omega
          subst ej
          go_wp2
          go_roundw
          case rel => exact ⟨k + 1, by omega, by go_num, by rw [← JA.out m rfl]; exact HL.out, B0.out, X.out⟩
          case measure => simp [intOf]; omega
    · have ek : n = k := by omega
      subst ek
      go_wp2
      go_ret
      exact ⟨A9, c9, fp, rfl, by have h8 := HL.out; rwa [calN_all d n (by rw [hn.out]; exact Nat.le_refl _)] at h8, fun i hi => Nat.le_of_lt (HFP.out i hi), X.out⟩
end Go.Proofs.Ytigfhllnfgfdoaa
