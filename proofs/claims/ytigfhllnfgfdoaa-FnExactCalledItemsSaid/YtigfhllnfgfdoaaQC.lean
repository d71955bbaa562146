/- CalledItems. -/
import Derived.Test.YtigfhllnfgfdoaaQB
namespace Go.Proofs.Ytigfhllnfgfdoaa
open Go.RowKit Go.Sort
set_option linter.unusedVariables false

theorem kIt.of_LO {w : World} {A : Option Addr} {c lo n : Nat} {xs : List ItD} {fp : List Nat} (h : LO kdItem 87 w A c xs fp) (hf : ∀ i ∈ fp, lo ≤ i) (hn : n = xs.length) : kIt.fr w lo w.heap.size (.slice A n c) xs := by
  subst hn
  exact ⟨[.slice A xs.length c], fp, rfl, ⟨A, c, rfl, h⟩, fun i hi => ⟨hf i hi, h.lt i hi⟩⟩
theorem wtL_mapIdx (f : Nat → ItD → ItD) (hf : ∀ i x, kdItem.wt (f i x) = kdItem.wt x) (xs : List ItD) : wtL kdItem (xs.mapIdx f) = wtL kdItem xs := by
  induction xs generalizing f with
  | nil => rfl
  | cons x t ih =>
    rw [List.mapIdx_cons]
    show 1 + kdItem.wt (f 0 x) + wtL kdItem _ = 1 + kdItem.wt x + wtL kdItem t
    rw [hf, ih _ (fun i x => hf (i + 1) x)]
theorem calF_ok (d : ShD) (h : kSh.ok d) : kIt.ok (calF d) := by
  have h1 : kdSh.wt d ≤ 1048576 := h
  rw [kdSh.wt_eq] at h1
  show wtL kdItem (calF d) ≤ 1048576
  have e : wtL kdItem (calF d) = wtL kdItem d.1 := wtL_mapIdx _ (fun i x => by
    rw [kdItem.wt_eq, kdItem.wt_eq]
    have e1 : kdL.wt (calIt d i x).2.1 = (calIt d i x).2.1.length := wtL_int _
    have e2 : kdL.wt x.2.1 = x.2.1.length := wtL_int _
    rw [e1, e2]
    simp [calIt]) d.1
  have e3 : kdItS.wt d.1 = wtL kdItem d.1 := rfl
  omega

set_option maxRecDepth 100000 in
set_option maxHeartbeats 4000000 in
theorem i.CalledItems_law (w : World) (v : Value) (d : ShD) (h : kSh.rd w v d) (hok : kSh.ok d) :
    Calls Try.prog 50 #[v] w fun e w' => ∃ v0, e = .returned (.tuple #[v0, .bool (calledF d).2]) ∧ kIt.fr w' w.heap.size w'.heap.size v0 (calledF d).1 ∧ kIt.ok (calledF d).1 ∧ Ext w w' := by
  obtain ⟨A, c, A', c', D, e, rfl, h1, h2, h3⟩ := kSh.lr h
  have a1 := h1.1; have a2 := h1.2.1
  have HR := hide h
  clear h h1 h2 h3
  obtain ⟨n, hn⟩ : ∃ n, Hid (d.1.length = n) := ⟨_, rfl⟩
  obtain ⟨n', hn'⟩ : ∃ n', Hid (d.2.1.length = n') := ⟨_, rfl⟩
  obtain ⟨m', hm'⟩ : ∃ n', Hid (d.2.2.length = n') := ⟨_, rfl⟩
  rw [hn.out] at a1
  rw [hn.out, hn'.out, hm'.out] at HR ⊢
  obtain ⟨W0, hW0⟩ : ∃ W0, Hid (W0 = w.alloc (.cells #[.slice A n c, .slice A' n' c', .slice D m' e] 32)) := ⟨_, rfl⟩
  have X : Hid (Ext w W0) := by rw [hW0.out]; exact Ext.alloc w _
  have B0 : Hid (Blk W0 w.heap.size #[.slice A n c, .slice A' n' c', .slice D m' e] 32) := by rw [hW0.out]; exact Blk.new rfl _ _
  obtain ⟨F, hF⟩ : ∃ F, Hid (calledF d = F) := ⟨_, rfl⟩
  rw [hF.out]
  have OKC := hide (calF_ok d hok)
  go_enter Try.func50, Try.ntmps50
  go_wp2_with fail
  rw [← hW0.out]
  clear hW0
  refine (i.IsSheet_m _ _ d (kSh.rd_ext HR.out X.out) hok).mono ?_
  rintro e1 w1 ⟨rfl, x1⟩
  replace X := hide (X.out.trans x1)
  replace B0 := hide (B0.out.ext x1)
  clear x1
  have cB := B0.out.cell
  cases hs : sheetB d
  · have HF : Hid (F = ([], false)) := by show _ = _; rw [← hF.out]; simp [calledF, hs]
    clear hs
    go_wp2
    go_ret2
    rw [HF.out]
    exact ⟨_, rfl, kIt.fr_nil _ _ _, Nat.zero_le _, X.out⟩
  have HS := hide hs
  clear hs
  go_wp2_with fail
  refine (i.openCalls_m _ _ d (kSh.rd_ext HR.out X.out) hok HS.out).mono ?_
  rintro e1 w2 ⟨A9, c9, fp, rfl, hl, hf, x2⟩
  have hcap := hl.cap
  have z := X.out.size
  replace X := hide (X.out.trans x2)
  replace B0 := hide (B0.out.ext x2)
  clear hl hf x2 cB
  have cB := B0.out.cell
  obtain ⟨L, hL⟩ : ∃ L, Hid ((pairs (openP d) d.1).length = L) := ⟨_, rfl⟩
  rw [hL.out] at hcap ⊢
  by_cases hz : L = 0
  · have HF : Hid (F = (calF d, true)) := by show _ = _; rw [← hF.out]; simp [calledF, HS.out, hL.out, hz]
    subst hz
    clear hF
    go_wp2_with fail
    refine (i.calledItems_m _ _ d (kSh.rd_ext HR.out X.out) hok HS.out).mono ?_
    rintro e1 w3 ⟨A8, c8, fq, rfl, hl, hf, x3⟩
    have hcap := hl.cap
    have z3 := X.out.size
    have el : (calF d).length = n := by rw [← hn.out]; simp [calF]
    rw [el] at hcap
    have FR := hide (kIt.of_LO (lo := w.heap.size) hl (fun i hi => by have := hf i hi; omega) (n := n) el.symm)
    replace X := hide (X.out.trans x3)
    clear hl hf x3 cB el
    rw [hn.out]
    go_wp2
    go_ret2
    rw [HF.out]
    exact ⟨_, rfl, FR.out, OKC.out, X.out⟩
  · have HF : Hid (F = ([], false)) := by show _ = _; rw [← hF.out]; simp [calledF, hL.out, hz]
    have hz2 : (0 : Int) < L := by omega
    clear hF hz
    go_wp2
    go_ret2
    rw [HF.out]
    exact ⟨_, rfl, kIt.fr_nil _ _ _, Nat.zero_le _, X.out⟩

set_option maxRecDepth 100000 in
set_option maxHeartbeats 4000000 in
theorem s.CalledItems_law (w : World) (v : Value) (d : ShD) (h : kSh.rd w v d) (hok : kSh.ok d) :
    Calls Try.prog 49 #[v] w fun e w' => ∃ v0, e = .returned (.tuple #[v0, .bool (calledF d).2]) ∧ kIt.fr w' w.heap.size w'.heap.size v0 (calledF d).1 ∧ kIt.ok (calledF d).1 ∧ Ext w w' := by
  obtain ⟨A, c, A', c', D, e, rfl, h1, h2, h3⟩ := kSh.lr h
  have a1 := h1.1; have a2 := h1.2.1
  have HR := hide h
  clear h h1 h2 h3
  obtain ⟨n, hn⟩ : ∃ n, Hid (d.1.length = n) := ⟨_, rfl⟩
  obtain ⟨n', hn'⟩ : ∃ n', Hid (d.2.1.length = n') := ⟨_, rfl⟩
  obtain ⟨m', hm'⟩ : ∃ n', Hid (d.2.2.length = n') := ⟨_, rfl⟩
  rw [hn.out] at a1
  rw [hn.out, hn'.out, hm'.out] at HR ⊢
  obtain ⟨W0, hW0⟩ : ∃ W0, Hid (W0 = w.alloc (.cells #[.slice A n c, .slice A' n' c', .slice D m' e] 32)) := ⟨_, rfl⟩
  have X : Hid (Ext w W0) := by rw [hW0.out]; exact Ext.alloc w _
  have B0 : Hid (Blk W0 w.heap.size #[.slice A n c, .slice A' n' c', .slice D m' e] 32) := by rw [hW0.out]; exact Blk.new rfl _ _
  obtain ⟨F, hF⟩ : ∃ F, Hid (calledF d = F) := ⟨_, rfl⟩
  rw [hF.out]
  have OKC := hide (calF_ok d hok)
  go_enter Try.func49, Try.ntmps49
  go_wp2_with fail
  rw [← hW0.out]
  clear hW0
  refine (s.caGood_m _ _ d (kSh.rd_ext HR.out X.out) hok).mono ?_
  rintro e1 w1 ⟨rfl, x1⟩
  replace X := hide (X.out.trans x1)
  replace B0 := hide (B0.out.ext x1)
  clear x1
  have cB := B0.out.cell
  cases hs : sheetB d
  · have HF : Hid (F = ([], false)) := by show _ = _; rw [← hF.out]; simp [calledF, hs]
    clear hs
    go_wp2
    go_ret2
    rw [HF.out]
    exact ⟨_, rfl, kIt.fr_nil _ _ _, Nat.zero_le _, X.out⟩
  have HS := hide hs
  clear hs
  go_wp2_with fail
  refine (s.caOpen_m _ _ d (kSh.rd_ext HR.out X.out) hok HS.out).mono ?_
  rintro e1 w2 ⟨A9, c9, fp, rfl, hl, hf, x2⟩
  have hcap := hl.cap
  have z := X.out.size
  replace X := hide (X.out.trans x2)
  replace B0 := hide (B0.out.ext x2)
  clear hl hf x2 cB
  have cB := B0.out.cell
  obtain ⟨L, hL⟩ : ∃ L, Hid ((pairs (openP d) d.1).length = L) := ⟨_, rfl⟩
  rw [hL.out] at hcap ⊢
  by_cases hz : L = 0
  · have HF : Hid (F = (calF d, true)) := by show _ = _; rw [← hF.out]; simp [calledF, HS.out, hL.out, hz]
    subst hz
    clear hF
    go_wp2_with fail
    refine (s.caItems_m _ _ d (kSh.rd_ext HR.out X.out) hok HS.out).mono ?_
    rintro e1 w3 ⟨A8, c8, fq, rfl, hl, hf, x3⟩
    have hcap := hl.cap
    have z3 := X.out.size
    have el : (calF d).length = n := by rw [← hn.out]; simp [calF]
    rw [el] at hcap
    have FR := hide (kIt.of_LO (lo := w.heap.size) hl (fun i hi => by have := hf i hi; omega) (n := n) el.symm)
    replace X := hide (X.out.trans x3)
    clear hl hf x3 cB el
    rw [hn.out]
    go_wp2
    go_ret2
    rw [HF.out]
    exact ⟨_, rfl, FR.out, OKC.out, X.out⟩
  · have HF : Hid (F = ([], false)) := by show _ = _; rw [← hF.out]; simp [calledF, hL.out, hz]
    have hz2 : (0 : Int) < L := by omega
    clear hF hz
    go_wp2
    go_ret2
    rw [HF.out]
    exact ⟨_, rfl, kIt.fr_nil _ _ _, Nat.zero_le _, X.out⟩
end Go.Proofs.Ytigfhllnfgfdoaa
