/- ChangedCalls. -/
import Derived.Test.YtigfhllnfgfdoaaOS
import Derived.Deep.RegionHeld3
namespace Go.Proofs.Ytigfhllnfgfdoaa
open Go.RowKit Go.Sort
set_option linter.unusedVariables false

def chgP (a b : ShD) (i k : Nat) : Bool := callF a i k != callF b i k
def chgF (a b : ShD) : List (List Int) × Bool := if sheetB a && sheetB b && sameB a.1 b.1 then (pairs (chgP a b) a.1, true) else ([], false)
theorem same_names {xs ys : List ItD} (h : sameB xs ys = true) : xs.length = ys.length ∧ ∀ i, namesAt xs i = namesAt ys i := by
  have h1 : xs.map (·.1) = ys.map (·.1) := by simpa [sameB] using h
  refine ⟨by have := congrArg List.length h1; simpa using this, fun i => ?_⟩
  have h2 := congrArg (fun l => l[i]?) h1
  simp only [List.getElem?_map] at h2
  unfold namesAt
  rw [List.getD_eq_getElem?_getD, List.getD_eq_getElem?_getD]
  cases hx : xs[i]? <;> cases hy : ys[i]? <;> rw [hx, hy] at h2 <;> simp_all

set_option maxRecDepth 100000 in
set_option maxHeartbeats 4000000 in
theorem chg1_any (w : World) (ga gb : Nat) (a b : ShD) (ix kx : Nat) (A A' D E E' G : Option Addr) (n c n' c' m' e p c2 p' c2' r' e2 : Nat) (hba : Blk w ga #[.slice A n c, .slice A' n' c', .slice D m' e] 32) (hbb : Blk w gb #[.slice E p c2, .slice E' p' c2', .slice G r' e2] 32)
    (h : kSh.rd w (.agg #[.slice A n c, .slice A' n' c', .slice D m' e]) a) (h' : kSh.rd w (.agg #[.slice E p c2, .slice E' p' c2', .slice G r' e2]) b) (hok : kSh.ok a) (hok' : kSh.ok b) (hs : sheetB a = true) (hs' : sheetB b = true) (hsame : sameB a.1 b.1 = true) (hi : ix < a.1.length) (hk : kx < (namesAt a.1 ix).length) :
    Calls Try.prog 92 #[.int .i64 ix, .int .i64 kx, .pointer (some ⟨ga, 0, none⟩), .pointer (some ⟨gb, 0, none⟩)] w fun e w' => e = .returned (.bool (chgP a b ix kx)) ∧ Ext w w' := by
  obtain ⟨q1, q2⟩ := same_names hsame
  have CA := hide (fun (wq : World) (xq : Ext w wq) => i.callOf_m wq _ a ix kx (kSh.rd_ext h xq) hok hs hi hk)
  have CB := hide (fun (wq : World) (xq : Ext w wq) => i.callOf_m wq _ b ix kx (kSh.rd_ext h' xq) hok' hs' (by omega) (by rw [← q2]; exact hk))
  have PE : Hid (chgP a b ix kx = (callF a ix kx != callF b ix kx)) := rfl
  rw [PE.out]
  have BA := hide hba
  have BB := hide hbb
  clear h h' hs hs' hsame hi hk q1 q2 hba hbb PE
  generalize callF a ix kx = C1 at *
  generalize callF b ix kx = C2 at *
  have cA := BA.out.cell
  have cB := BB.out.cell
  go_enter Try.func92, Try.ntmps92
  go_wp2
  go_region_held3 (fun w' => (∀ i, w'.cell? ⟨ga, i, none⟩ = #[Value.slice A n c, .slice A' n' c', .slice D m' e][i]?) ∧ ∀ i, w'.cell? ⟨gb, i, none⟩ = #[Value.slice E p c2, .slice E' p' c2', .slice G r' e2][i]?)
    (first | exact ⟨(BA.out.ext Y3.out).cell, (BB.out.ext Y3.out).cell⟩ | exact ⟨(BA.out.ext Y2.out).cell, (BB.out.ext Y2.out).cell⟩ | exact ⟨BA.out.cell, BB.out.cell⟩)
    (first | (go_at_call 75; refine (CB.out w2 Y2.out).mono ?_; rintro e1 w3 ⟨rfl, x3⟩; have Y3 := hide (Y2.out.trans x3); clear x3) | (go_at_call 75; refine (CA.out w.drew (Ext.drew w)).mono ?_; rintro e1 w2 ⟨rfl, x2⟩; have Y2 := hide ((Ext.drew w).trans x2); clear x2))
  all_goals
    go_wp2
    go_ret
    exact ⟨rfl, Y3.out⟩

set_option maxRecDepth 100000 in
set_option maxHeartbeats 8000000 in
theorem i.ChangedCalls_law (w : World) (v v' : Value) (d d2 : ShD) (h : kSh.rd w v d) (hok : kSh.ok d) (h' : kSh.rd w v' d2) (hok' : kSh.ok d2) :
    Calls Try.prog 43 #[v, v'] w fun e w' => ∃ v0, e = .returned (.tuple #[v0, .bool (chgF d d2).2]) ∧ kII.fr w' w.heap.size w'.heap.size v0 (chgF d d2).1 ∧ kII.ok (chgF d d2).1 ∧ Ext w w' := by
  obtain ⟨A, c, A', c', D, e, rfl, h1, _, _⟩ := kSh.lr h
  obtain ⟨E, c2, E', c2', G, e2, rfl, h4, _, _⟩ := kSh.lr h'
  have hw1 : wtL kdItem d.1 ≤ 1048576 := by have q : kdSh.wt d ≤ 1048576 := hok; rw [kdSh.wt_eq] at q; have : kdItS.wt d.1 = wtL kdItem d.1 := rfl; omega
  have hw4 : wtL kdItem d2.1 ≤ 1048576 := by have q : kdSh.wt d2 ≤ 1048576 := hok'; rw [kdSh.wt_eq] at q; have : kdItS.wt d2.1 = wtL kdItem d2.1 := rfl; omega
  have a1 := h1.1; have a2 := h1.2.1
  have HR := hide h
  have HQ := hide h'
  have H1 := hide h1
  have H4 := hide h4
  clear h h1 h' h4
  obtain ⟨n, hn⟩ : ∃ n, Hid (d.1.length = n) := ⟨_, rfl⟩
  obtain ⟨n', hn'⟩ : ∃ n', Hid (d.2.1.length = n') := ⟨_, rfl⟩
  obtain ⟨m', hm'⟩ : ∃ n', Hid (d.2.2.length = n') := ⟨_, rfl⟩
  obtain ⟨p, hp⟩ : ∃ n, Hid (d2.1.length = n) := ⟨_, rfl⟩
  obtain ⟨p', hp'⟩ : ∃ n', Hid (d2.2.1.length = n') := ⟨_, rfl⟩
  obtain ⟨r', hr'⟩ : ∃ n', Hid (d2.2.2.length = n') := ⟨_, rfl⟩
  rw [hn.out] at a1
  rw [hn.out, hn'.out, hm'.out] at HR ⊢
  rw [hp.out, hp'.out, hr'.out] at HQ ⊢
  obtain ⟨W0, hW0⟩ : ∃ W0, Hid (W0 = (w.alloc (.cells #[.slice A n c, .slice A' n' c', .slice D m' e] 32)).alloc (.cells #[.slice E p c2, .slice E' p' c2', .slice G r' e2] 32)) := ⟨_, rfl⟩
  have X : Hid (Ext w W0) := by rw [hW0.out]; exact (Ext.alloc w _).trans (Ext.alloc _ _)
  have B0 : Hid (Blk W0 w.heap.size #[.slice A n c, .slice A' n' c', .slice D m' e] 32) := by rw [hW0.out]; exact (Blk.new rfl _ _).alloc _
  have B9 : Hid (Blk W0 (w.heap.size + 1) #[.slice E p c2, .slice E' p' c2', .slice G r' e2] 32) := by rw [hW0.out]; exact Blk.new (by simp) _ _
  obtain ⟨F, hF⟩ : ∃ F, Hid (chgF d d2 = F) := ⟨_, rfl⟩
  rw [hF.out]
  go_enter Try.func43, Try.ntmps43
  go_wp2_with fail
  rw [← hW0.out]
  clear hW0
  refine (i.IsSheet_m _ _ d (kSh.rd_ext HR.out X.out) hok).mono ?_
  rintro e1 w9 ⟨rfl, x1⟩
  replace X := hide (X.out.trans x1)
  replace B0 := hide (B0.out.ext x1)
  replace B9 := hide (B9.out.ext x1)
  clear x1
  have cB := B0.out.cell; have cD := B9.out.cell
  cases hs : sheetB d
  · have HF : Hid (F = ([], false)) := by show _ = _; rw [← hF.out]; simp [chgF, hs]
    clear hs
    go_wp2
    go_ret2
    rw [HF.out]
    exact ⟨_, rfl, kII.fr_nil _ _ _, Nat.zero_le _, X.out⟩
  have HS := hide hs
  clear hs
  go_wp2_with fail
  refine (i.IsSheet_m _ _ d2 (kSh.rd_ext HQ.out X.out) hok').mono ?_
  rintro e1 w8 ⟨rfl, x1⟩
  replace X := hide (X.out.trans x1)
  replace B0 := hide (B0.out.ext x1)
  replace B9 := hide (B9.out.ext x1)
  clear x1 cB cD
  have cB := B0.out.cell; have cD := B9.out.cell
  cases hs : sheetB d2
  · have HF : Hid (F = ([], false)) := by show _ = _; rw [← hF.out]; simp [chgF, hs]
    clear hs
    go_wp2
    go_ret2
    rw [HF.out]
    exact ⟨_, rfl, kII.fr_nil _ _ _, Nat.zero_le _, X.out⟩
  have HS2 := hide hs
  clear hs
  have SM := i.sameNames_any w8 A E c c2 w.heap.size d.1 d2.1 (H1.out.ext X.out (Nat.le_refl _)) (H4.out.ext X.out (Nat.le_refl _)) X.out.size hw1 hw4
  rw [hn.out, hp.out] at SM
  have SMH := hide SM
  clear SM
  go_wp2_with fail
  refine SMH.out.mono ?_
  rintro e1 w1 ⟨rfl, x1⟩
  replace X := hide (X.out.trans x1)
  replace B0 := hide (B0.out.ext x1)
  replace B9 := hide (B9.out.ext x1)
  clear x1 cB cD SMH
  have cB := B0.out.cell; have cD := B9.out.cell
  cases hs : sameB d.1 d2.1
  · have HF : Hid (F = ([], false)) := by show _ = _; rw [← hF.out]; simp [chgF, hs]
    clear hs
    go_wp2
    go_ret2
    rw [HF.out]
    exact ⟨_, rfl, kII.fr_nil _ _ _, Nat.zero_le _, X.out⟩
  have HSM := hide hs
  have HF : Hid (F = (pairs (chgP d d2) d.1, true)) := by show _ = _; rw [← hF.out]; simp [chgF, HS.out, HS2.out, hs]
  have hit : itemsB d.1 = true := by have h8 := HS.out; simp only [sheetB, cleanB, Bool.and_eq_true] at h8; exact h8.1.1.1.1.1
  have OK := hide (pairs_ok (chgP d d2) hit)
  have HIT := hide hit
  clear hs hit hF
  have hmf : ∀ (fn : Fn) (first cap : Array Value) (w : World), (Instr.makeFunc fn first cap).run Try.prog w = .ok (.func fn first cap) w := fun _ _ _ _ => rfl
  have NWH := namesChg (.pointer (some ⟨w.heap.size, 0, none⟩)) (.pointer (some ⟨w.heap.size + 1, 0, none⟩)) (chgP d d2) w1 A c w.heap.size d.1 (H1.out.ext X.out (Nat.le_refl _)) X.out.size HIT.out
    (fun w' ix kx x' hi hk => chg1_any w' w.heap.size (w.heap.size + 1) d d2 ix kx A A' D E E' G n c n' c' m' e p c2 p' c2' r' e2 (B0.out.ext x') (B9.out.ext x') (kSh.rd_ext HR.out (X.out.trans x')) (kSh.rd_ext HQ.out (X.out.trans x')) hok hok' HS.out HS2.out HSM.out hi hk)
  rw [hn.out] at NWH
  have NH := hide NWH
  clear NWH
  go_wp2_with fail
  refine NH.out.mono ?_
  rintro e1 w2 ⟨A9, c9, fp, rfl, hl, hf, x2⟩
  have hcap := hl.cap
  have z := X.out.size
  have FR := hide (kII.of_LO (lo := w.heap.size) hl (fun i hi => by have := hf i hi; omega) rfl)
  replace X := hide (X.out.trans x2)
  clear hl hf x2 cB cD
  obtain ⟨L, hL⟩ : ∃ L, Hid ((pairs (chgP d d2) d.1).length = L) := ⟨_, rfl⟩
  rw [hL.out] at hcap FR ⊢
  go_wp2
  go_ret2
  rw [HF.out]
  exact ⟨_, rfl, FR.out, OK.out, X.out⟩

set_option maxRecDepth 100000 in
set_option maxHeartbeats 8000000 in
theorem s.ChangedCalls_law (w : World) (v v' : Value) (d d2 : ShD) (h : kSh.rd w v d) (hok : kSh.ok d) (h' : kSh.rd w v' d2) (hok' : kSh.ok d2) :
    Calls Try.prog 42 #[v, v'] w fun e w' => ∃ v0, e = .returned (.tuple #[v0, .bool (chgF d d2).2]) ∧ kII.fr w' w.heap.size w'.heap.size v0 (chgF d d2).1 ∧ kII.ok (chgF d d2).1 ∧ Ext w w' := by
  obtain ⟨A, c, A', c', D, e, rfl, h1, _, _⟩ := kSh.lr h
  obtain ⟨E, c2, E', c2', G, e2, rfl, h4, _, _⟩ := kSh.lr h'
  have hw1 : wtL kdItem d.1 ≤ 1048576 := by have q : kdSh.wt d ≤ 1048576 := hok; rw [kdSh.wt_eq] at q; have : kdItS.wt d.1 = wtL kdItem d.1 := rfl; omega
  have hw4 : wtL kdItem d2.1 ≤ 1048576 := by have q : kdSh.wt d2 ≤ 1048576 := hok'; rw [kdSh.wt_eq] at q; have : kdItS.wt d2.1 = wtL kdItem d2.1 := rfl; omega
  have a1 := h1.1; have a2 := h1.2.1
  have HR := hide h
  have HQ := hide h'
  have H1 := hide h1
  have H4 := hide h4
  clear h h1 h' h4
  obtain ⟨n, hn⟩ : ∃ n, Hid (d.1.length = n) := ⟨_, rfl⟩
  obtain ⟨n', hn'⟩ : ∃ n', Hid (d.2.1.length = n') := ⟨_, rfl⟩
  obtain ⟨m', hm'⟩ : ∃ n', Hid (d.2.2.length = n') := ⟨_, rfl⟩
  obtain ⟨p, hp⟩ : ∃ n, Hid (d2.1.length = n) := ⟨_, rfl⟩
  obtain ⟨p', hp'⟩ : ∃ n', Hid (d2.2.1.length = n') := ⟨_, rfl⟩
  obtain ⟨r', hr'⟩ : ∃ n', Hid (d2.2.2.length = n') := ⟨_, rfl⟩
  rw [hn.out] at a1
  rw [hn.out, hn'.out, hm'.out] at HR ⊢
  rw [hp.out, hp'.out, hr'.out] at HQ ⊢
  obtain ⟨W0, hW0⟩ : ∃ W0, Hid (W0 = (w.alloc (.cells #[.slice A n c, .slice A' n' c', .slice D m' e] 32)).alloc (.cells #[.slice E p c2, .slice E' p' c2', .slice G r' e2] 32)) := ⟨_, rfl⟩
  have X : Hid (Ext w W0) := by rw [hW0.out]; exact (Ext.alloc w _).trans (Ext.alloc _ _)
  have B0 : Hid (Blk W0 w.heap.size #[.slice A n c, .slice A' n' c', .slice D m' e] 32) := by rw [hW0.out]; exact (Blk.new rfl _ _).alloc _
  have B9 : Hid (Blk W0 (w.heap.size + 1) #[.slice E p c2, .slice E' p' c2', .slice G r' e2] 32) := by rw [hW0.out]; exact Blk.new (by simp) _ _
  obtain ⟨F, hF⟩ : ∃ F, Hid (chgF d d2 = F) := ⟨_, rfl⟩
  rw [hF.out]
  go_enter Try.func42, Try.ntmps42
  go_wp2_with fail
  rw [← hW0.out]
  clear hW0
  refine (s.caGood_m _ _ d (kSh.rd_ext HR.out X.out) hok).mono ?_
  rintro e1 w9 ⟨rfl, x1⟩
  replace X := hide (X.out.trans x1)
  replace B0 := hide (B0.out.ext x1)
  replace B9 := hide (B9.out.ext x1)
  clear x1
  have cB := B0.out.cell; have cD := B9.out.cell
  cases hs : sheetB d
  · have HF : Hid (F = ([], false)) := by show _ = _; rw [← hF.out]; simp [chgF, hs]
    clear hs
    go_wp2
    go_ret2
    rw [HF.out]
    exact ⟨_, rfl, kII.fr_nil _ _ _, Nat.zero_le _, X.out⟩
  have HS := hide hs
  clear hs
  go_wp2_with fail
  refine (s.caGood_m _ _ d2 (kSh.rd_ext HQ.out X.out) hok').mono ?_
  rintro e1 w8 ⟨rfl, x1⟩
  replace X := hide (X.out.trans x1)
  replace B0 := hide (B0.out.ext x1)
  replace B9 := hide (B9.out.ext x1)
  clear x1 cB cD
  have cB := B0.out.cell; have cD := B9.out.cell
  cases hs : sheetB d2
  · have HF : Hid (F = ([], false)) := by show _ = _; rw [← hF.out]; simp [chgF, hs]
    clear hs
    go_wp2
    go_ret2
    rw [HF.out]
    exact ⟨_, rfl, kII.fr_nil _ _ _, Nat.zero_le _, X.out⟩
  have HS2 := hide hs
  clear hs
  have SM := s.itSame_any w8 A E c c2 w.heap.size d.1 d2.1 (H1.out.ext X.out (Nat.le_refl _)) (H4.out.ext X.out (Nat.le_refl _)) X.out.size hw1 hw4
  rw [hn.out, hp.out] at SM
  have SMH := hide SM
  clear SM
  go_wp2_with fail
  refine SMH.out.mono ?_
  rintro e1 w1 ⟨rfl, x1⟩
  replace X := hide (X.out.trans x1)
  replace B0 := hide (B0.out.ext x1)
  replace B9 := hide (B9.out.ext x1)
  clear x1 cB cD SMH
  have cB := B0.out.cell; have cD := B9.out.cell
  cases hs : sameB d.1 d2.1
  · have HF : Hid (F = ([], false)) := by show _ = _; rw [← hF.out]; simp [chgF, hs]
    clear hs
    go_wp2
    go_ret2
    rw [HF.out]
    exact ⟨_, rfl, kII.fr_nil _ _ _, Nat.zero_le _, X.out⟩
  have HSM := hide hs
  have HF : Hid (F = (pairs (chgP d d2) d.1, true)) := by show _ = _; rw [← hF.out]; simp [chgF, HS.out, HS2.out, hs]
  have hit : itemsB d.1 = true := by have h8 := HS.out; simp only [sheetB, cleanB, Bool.and_eq_true] at h8; exact h8.1.1.1.1.1
  have OK := hide (pairs_ok (chgP d d2) hit)
  have HIT := hide hit
  clear hs hit hF
  have z1 : w.heap.size + 1 < w1.heap.size := B9.out.lt
  have HC := hide (fun (w2 : World) (i k : Nat) (x2 : Ext w w2) (hi : i < d.1.length) (hk : k < (namesAt d.1 i).length) => And.intro (s.caCall_m w2 _ d i k (kSh.rd_ext HR.out x2) hok HS.out hi hk) (s.caCall_m w2 _ d2 i k (kSh.rd_ext HQ.out x2) hok' HS2.out (by rw [← (same_names HSM.out).1]; exact hi) (by rw [← (same_names HSM.out).2]; exact hk)))
  have H := H1
  have N3 := hide (names_three HIT.out)
  have n1 : d.1.length ≤ 14 := by have h8 := HIT.out; simp [itemsB] at h8; omega
  rw [hn.out] at n1 HC
  have HPP : Hid (∀ i k, chgP d d2 i k = (callF d i k != callF d2 i k)) := fun i k => rfl
  obtain ⟨xs, hxs⟩ : ∃ xs, Hid (d.1 = xs) := ⟨_, rfl⟩
  obtain ⟨P, hP⟩ : ∃ P, Hid (chgP d d2 = P) := ⟨_, rfl⟩
  rw [hxs.out, hP.out] at HF OK
  rw [hxs.out] at hn H N3 HC
  rw [hP.out] at HPP
  obtain ⟨BX, hBX⟩ : ∃ BX : Array Value, Hid (BX = #[.slice A n c, .slice A' n' c', .slice D m' e]) := ⟨_, rfl⟩
  obtain ⟨BY, hBY⟩ : ∃ BY : Array Value, Hid (BY = #[.slice E p c2, .slice E' p' c2', .slice G r' e2]) := ⟨_, rfl⟩
  clear H1 H4 HQ HR
  go_wp2
  rw [← hBX.out] at B0
  rw [← hBY.out] at B9
  clear cB cD
  go_loopw [6, 29] (fun o i wr => ∃ (ix : Nat) (A' : Option Addr) (c' : Nat) (fp : List Nat), ix ≤ n ∧ i = .int .i64 ix ∧ o = .slice A' (pairsN P xs ix).length c' ∧ LO kdL 49 wr A' c' (pairsN P xs ix) fp ∧ (∀ i ∈ fp, w.heap.size + 2 ≤ i) ∧ Blk wr w.heap.size BX 32 ∧ Blk wr (w.heap.size + 1) BY 32 ∧ Ext w wr) (fun _ i _ => n - (intOf i).toNat)
  case atStart => exact ⟨0, none, 0, [], Nat.zero_le _, rfl, rfl, LO.none_, by simp, B0.out, B9.out, X.out⟩
  case round =>
    obtain ⟨ix, A1, c1, fp, hk, rfl, rfl, hown, hfp, hb0, hb9, hx⟩ := hrel
    clear X B0 B9
    have HO := hide hown
    have HF0 := hide hfp
    have X := hide hx
    have B0 := hide hb0
    have B9 := hide hb9
    clear hb0 hb9
    clear hown hfp hx
    by_cases hlt : ix < n
    · obtain ⟨x, hxk⟩ : ∃ x, Hid (xs[ix]? = some x) := ⟨_, List.getElem?_eq_getElem (by rw [hn.out]; exact hlt)⟩
      obtain ⟨b, off, A3, c3, A4, c4, rfl, hb, q0, q1, q2, r1, r2⟩ := (H.out.ext X.out (Nat.le_refl _)).item ix x hxk.out
      have NM := hide (namesAt_some hxk.out)
      have PS := hide (pairsN_succ P xs ix)
      have l3 := N3.out ix
      have ln := pairsN_len P xs N3.out ix
      have CL := hide (fun (w2 : World) (k : Nat) (x2 : Ext w w2) (hk : k < (namesAt xs ix).length) => HC.out w2 ix k x2 hlt hk)
      rw [NM.out] at l3 PS CL
      clear r1 r2 NM
      obtain ⟨m, hm⟩ : ∃ m, Hid (x.1.length = m) := ⟨_, rfl⟩
      rw [hm.out] at l3 PS CL q0
      obtain ⟨W1, hW1⟩ : ∃ W1, Hid (W1 = wr.alloc (.cells #[.slice A3 m c3, .slice A4 x.2.1.length c4, .bool x.2.2] 87)) := ⟨_, rfl⟩
      have x1 : Ext wr W1 := by rw [hW1.out]; exact Ext.alloc _ _
      have sz1 := X.out.size
      replace X := hide (X.out.trans x1)
      replace HO := hide (HO.out.ext x1)
      replace B0 := hide (B0.out.ext x1)
      replace B9 := hide (B9.out.ext x1)
      generalize hpl : pairsN P xs ix = pl at *
      clear x1 hpl
      generalize x.2.1.length = m1 at *
      generalize x.2.2 = m2 at *
      go_wp2
      rw [← hW1.out]
      clear hW1 q0 q1 q2
      go_loopw [6, 37] (fun o i wr => ∃ (k : Nat) (A' : Option Addr) (c' : Nat) (fp : List Nat), k ≤ m ∧ i = .int .i64 k ∧ o = .slice A' (pl ++ rowP P ix k).length c' ∧ LO kdL 49 wr A' c' (pl ++ rowP P ix k) fp ∧ (∀ i ∈ fp, w.heap.size + 2 ≤ i) ∧ Blk wr w.heap.size BX 32 ∧ Blk wr (w.heap.size + 1) BY 32 ∧ Ext w wr) (fun _ i _ => m - (intOf i).toNat)
      case atStart => exact ⟨0, A1, c1, fp, Nat.zero_le _, rfl, by simp [rowP], by simpa [rowP] using HO.out, HF0.out, B0.out, B9.out, X.out⟩
      case round =>
        obtain ⟨k, A5, c5, fq, hk5, rfl, rfl, hown, hfp, hb0, hb9, hx⟩ := hrel
        clear X HO HF0 B0 B9
        have HO := hide hown
        have HF0 := hide hfp
        have X := hide hx
        have B0 := hide hb0
        have B9 := hide hb9
        clear hb0 hb9
        clear hown hfp hx
        by_cases hltk : k < m
        · have CK := hide (CL.out wr k X.out hltk)
          have RS := hide (rowP_succ P ix k)
          have rl := rowP_len P ix k
          have hcap := HO.out.cap
          have LN : Hid ((pl ++ rowP P ix k).length ≤ 100) := by show _ ≤ _; rw [List.length_append]; omega
          generalize hpr : pl ++ rowP P ix k = pr at *
          have HPR := hide hpr
          clear hpr rl
          obtain ⟨L, hL⟩ : ∃ L, Hid (pr.length = L) := ⟨_, rfl⟩
          rw [hL.out] at hcap LN
          rw [hL.out]
          have hL1 : L ≤ 100 := LN.out
          clear LN
          obtain ⟨pb, hpb⟩ : ∃ pb, Hid (P ix k = pb) := ⟨_, rfl⟩
          rw [hpb.out] at RS
          have CA := hide (fun (wq : World) (xq : Ext w wq) => (CL.out wq k xq hltk).1)
          have CB := hide (fun (wq : World) (xq : Ext w wq) => (CL.out wq k xq hltk).2)
          have PB : Hid ((callF d ix k != callF d2 ix k) = pb) := (HPP.out ix k).symm.trans hpb.out
          clear CK hpb
          generalize callF d ix k = cl1 at *
          generalize callF d2 ix k = cl2 at *
          have cB := B0.out.cell
          rw [hBX.out] at cB
          have cD := B9.out.cell
          rw [hBY.out] at cD
          go_wp2
          go_region_held3 (fun w' => (∀ i, w'.cell? ⟨w.heap.size, i, none⟩ = #[Value.slice (some ⟨b, off, none⟩) n c, .slice A' n' c', .slice D m' e][i]?) ∧ ∀ i, w'.cell? ⟨w.heap.size + 1, i, none⟩ = #[Value.slice E p c2, .slice E' p' c2', .slice G r' e2][i]?)
            (first | exact ⟨fun i => by rw [← hBX.out]; exact (B0.out.ext Y6.out).cell i, fun i => by rw [← hBY.out]; exact (B9.out.ext Y6.out).cell i⟩ | exact ⟨fun i => by rw [← hBX.out]; exact (B0.out.ext Y5.out).cell i, fun i => by rw [← hBY.out]; exact (B9.out.ext Y5.out).cell i⟩ | exact ⟨cB, cD⟩)
            (first | (go_at_call 74; refine (CB.out w5 (X.out.trans Y5.out)).mono ?_; rintro e1 w2 ⟨rfl, x6⟩; have Y6 := hide (Y5.out.trans x6); clear x6) | (go_at_call 74; refine (CA.out wr.drew (X.out.trans (Ext.drew wr))).mono ?_; rintro e1 w5 ⟨rfl, x5⟩; have Y5 := hide ((Ext.drew wr).trans x5); clear x5))
          replace X := hide (X.out.trans Y6.out)
          replace HO := hide (HO.out.ext Y6.out)
          replace B0 := hide (B0.out.ext Y6.out)
          replace B9 := hide (B9.out.ext Y6.out)
          clear Y5 Y6 cB cD CA CB
          have hcl := PB.out
          clear PB
          cases pb
          · replace RS : Hid (pl ++ rowP P ix (k + 1) = pr) := by show _ = _; rw [RS.out, ← HPR.out]; simp
            go_wp2
            go_roundw
            case rel => exact ⟨k + 1, A5, c5, fq, by omega, by go_num, by rw [RS.out, hL.out], by rw [RS.out]; exact HO.out, HF0.out, B0.out, B9.out, X.out⟩
            case measure => simp [intOf]; omega
          · replace RS : Hid (pl ++ rowP P ix (k + 1) = pr ++ [[(ix : Int), (k : Int)]]) := by show _ = _; rw [RS.out, ← HPR.out]; simp
            have KO := hide (pair_own w2 ix k)
            have LT := hide HO.out.lt
            have LO1 := hide ((HO.out.ext (Ext.alloc w2 (.cells #[.int .i64 ix, .int .i64 k] 3))).ext (Ext.alloc _ (.cells #[.slice (some ⟨w2.heap.size, 0, none⟩) 2 2] 49)))
            have KO1 := hide (kdL.own_ext KO.out (Ext.alloc _ (.cells #[.slice (some ⟨w2.heap.size, 0, none⟩) 2 2] 49)))
            have XA : Hid (Ext w2 ((w2.alloc (.cells #[.int .i64 ix, .int .i64 k] 3)).alloc (.cells #[.slice (some ⟨w2.heap.size, 0, none⟩) 2 2] 49))) := (Ext.alloc _ _).trans (Ext.alloc _ _)
            have D2 := hide (row_srcL (w2.alloc (.cells #[.int .i64 ix, .int .i64 k] 3)) (.slice (some ⟨w2.heap.size, 0, none⟩) 2 2) 49 (w2.heap.size + 1) (by simp))
            have b1 : (L + 1) * 24 ≤ 140737488355328 := by omega
            have b2 : L + 1 ≤ 4611686018427387904 := by omega
            clear KO
            go_wp2_with (at_builtin; refine wpList_append_LO (K := kdL) rfl (.tmp 49) (.tmp 53) rfl elemN_row (by decide) hL.out.symm rfl rfl LO1.out KO1.out ?d1 D2.out b1 b2 ?_)
            case d1 => intro i hi hm; simp at hi; have := LT.out i hm; omega
            intro A7 c7 w7 fp7 hap
            have HA := hide hap
            clear hap
            go_wp2
            go_roundw
            case rel =>
              have sx := X.out.size
              have xs2 := XA.out.size
              refine ⟨k + 1, A7, c7, fp7, by omega, by go_num, by rw [RS.out, List.length_append, hL.out]; rfl, by rw [RS.out]; exact HA.out.own, fun i hi => ?_, ((B0.out.ext XA.out).tchF HA.out.tch (fun h => by have := HF0.out _ h; omega)), ((B9.out.ext XA.out).tchF HA.out.tch (fun h => by have := HF0.out _ h; omega)), (X.out.trans XA.out).tchF HA.out.tch (fun i hi => by have := HF0.out i hi; omega)⟩
              rcases HA.out.sub i hi with h | h | h
              · exact HF0.out i h
              · simp at h; have := B9.out.lt; omega
              · rw [h]; have := B9.out.lt; omega
            case measure => simp [intOf]; omega
        · have ek : m = k := by omega
          subst ek
          rw [← PS.out] at *
          go_wp2
          go_roundw
          case rel => exact ⟨ix + 1, A5, c5, fq, by omega, by go_num, rfl, HO.out, HF0.out, B0.out, B9.out, X.out⟩
          case measure => simp [intOf]; omega
    · have ek : n = ix := by omega
      subst ek
      have FR := hide (kII.of_LO (lo := w.heap.size) HO.out (fun i hi => by have := HF0.out i hi; omega) rfl)
      have PE : Hid (pairsN P xs n = pairs P xs) := by show _ = _; rw [pairs, hn.out]
      rw [PE.out] at FR ⊢
      have hcap := HO.out.cap
      rw [PE.out] at hcap
      obtain ⟨L9, hL9⟩ : ∃ L9, Hid ((pairs P xs).length = L9) := ⟨_, rfl⟩
      rw [hL9.out] at FR hcap ⊢
      go_wp2
      go_ret2
      rw [HF.out]
      exact ⟨_, rfl, FR.out, OK.out, X.out⟩

end Go.Proofs.Ytigfhllnfgfdoaa
