/- OpenCalls. -/
import Derived.Test.YtofmfagdaiphaaaGO
import Derived.Test.YtofmfagdaiphaaaOF
namespace Go.Proofs.Ytofmfagdaiphaaa
open Go.RowKit Go.Sort
set_option linter.unusedVariables false

theorem pairs_ok (P : Nat → Nat → Bool) {xs : List ItD} (h : itemsB xs = true) : kII.ok (pairs P xs) := by
  have h1 := pairsN_len P xs (names_three h) xs.length
  have h2 : xs.length ≤ 14 := by simp [itemsB] at h; omega
  have h3 : ∀ l ∈ pairs P xs, l.length = 2 := by
    intro l hl
    unfold pairs pairsN rowP at hl
    simp only [List.mem_flatMap] at hl
    obtain ⟨i, _, k, _, hm⟩ := hl
    split at hm
    · simp at hm; rw [hm]; rfl
    · simp at hm
  have h4 : ∀ ys : List (List Int), (∀ l ∈ ys, l.length = 2) → wtL kdL ys = 3 * ys.length := by
    intro ys hy
    induction ys with
    | nil => rfl
    | cons y t ih =>
      have e1 : kdL.wt y = y.length := wtL_int y
      have e2 := hy y (by simp)
      have e3 := ih (fun l hl => hy l (by simp [hl]))
      show 1 + kdL.wt y + wtL kdL t = 3 * (t.length + 1)
      omega
  show wtL kdL (pairs P xs) ≤ 1048576
  rw [h4 _ h3]
  unfold pairs
  omega
def openCallsF (d : ShD) : List (List Int) × Bool := if sheetB d then (pairs (openP d) d.1, true) else ([], false)

set_option maxRecDepth 100000 in
set_option maxHeartbeats 2000000 in
theorem open1_any (w : World) (g : Nat) (d : ShD) (ix kx : Nat) (A A' D : Option Addr) (n c n' c' m' e : Nat) (hb0 : Blk w g #[.slice A n c, .slice A' n' c', .slice D m' e] 28) (h : kSh.rd w (.agg #[.slice A n c, .slice A' n' c', .slice D m' e]) d) (hok : kSh.ok d) (hs : sheetB d = true) (hi : ix < d.1.length) (hk : kx < (namesAt d.1 ix).length) :
    Calls Try.prog 85 #[.int .i64 ix, .int .i64 kx, .pointer (some ⟨g, 0, none⟩)] w fun e w' => e = .returned (.bool (openP d ix kx)) ∧ Ext w w' := by
  have CALL := hide (i.callOf_m w _ d ix kx h hok hs hi hk)
  have OPE : Hid (openP d ix kx = decide (callF d ix kx < 0)) := rfl
  rw [OPE.out]
  generalize callF d ix kx = C at *
  have cB := hb0.cell
  clear h hs hi hk hb0
  go_enter Try.func85, Try.ntmps85
  go_wp2_with fail
  refine CALL.out.mono ?_
  rintro e1 w2 ⟨rfl, x2⟩
  have X := hide x2
  clear x2 cB
  go_wp2
  go_ret
  exact ⟨rfl, X.out⟩

set_option maxRecDepth 100000 in
set_option maxHeartbeats 2000000 in
theorem i.openCalls_m (w : World) (v : Value) (d : ShD) (h : kSh.rd w v d) (hok : kSh.ok d) (hs : sheetB d = true) :
    Calls Try.prog 57 #[v] w fun e w' => ∃ A' c' fp, e = .returned (.slice A' (pairs (openP d) d.1).length c') ∧ LO kdL 42 w' A' c' (pairs (openP d) d.1) fp ∧ (∀ i ∈ fp, w.heap.size ≤ i) ∧ Ext w w' := by
  obtain ⟨A, c, A', c', D, e, rfl, h1, h2, h3⟩ := kSh.lr h
  have hok' : kdSh.wt d ≤ 1048576 := hok
  rw [kdSh.wt_eq] at hok'
  have hw1 : wtL kdItem d.1 ≤ 1048576 := by have : kdItS.wt d.1 = wtL kdItem d.1 := rfl; omega
  have k1 := wtL_len kdItem d.1
  have a1 := h1.1; have a2 := h1.2.1
  have HR := hide h
  have H1 := hide h1
  have HW1 := hide hw1
  have hn0 : d.1.length ≤ 1048576 := by omega
  clear h h1 h2 h3 hok' hw1 k1
  obtain ⟨n, hn⟩ : ∃ n, Hid (d.1.length = n) := ⟨_, rfl⟩
  obtain ⟨n', hn'⟩ : ∃ n', Hid (d.2.1.length = n') := ⟨_, rfl⟩
  obtain ⟨m', hm'⟩ : ∃ n', Hid (d.2.2.length = n') := ⟨_, rfl⟩
  rw [hn.out] at a1 hn0
  rw [hn.out, hn'.out, hm'.out] at HR ⊢
  obtain ⟨W0, hW0⟩ : ∃ W0, Hid (W0 = w.alloc (.cells #[.slice A n c, .slice A' n' c', .slice D m' e] 28)) := ⟨_, rfl⟩
  have X : Hid (Ext w W0) := by rw [hW0.out]; exact Ext.alloc w _
  have B0 : Hid (Blk W0 w.heap.size #[.slice A n c, .slice A' n' c', .slice D m' e] 28) := by rw [hW0.out]; exact Blk.new rfl _ _
  have hit : itemsB d.1 = true := by simp only [sheetB, cleanB, Bool.and_eq_true] at hs; exact hs.1.1.1.1.1
  have HIT := hide hit
  have HS := hide hs
  clear hs hit
  have hmf : ∀ (fn : Fn) (first cap : Array Value) (w : World), (Instr.makeFunc fn first cap).run Try.prog w = .ok (.func fn first cap) w := fun _ _ _ _ => rfl
  have NWH := namesOpen (.pointer (some ⟨w.heap.size, 0, none⟩)) undef (openP d) W0 A c w.heap.size d.1 (H1.out.ext X.out (Nat.le_refl _)) X.out.size HIT.out
    (fun w' ix kx x' hi hk => open1_any w' w.heap.size d ix kx A A' D n c n' c' m' e (B0.out.ext x') (kSh.rd_ext HR.out (X.out.trans x')) hok HS.out hi hk)
  rw [hn.out] at NWH
  have NH := hide NWH
  clear NWH
  go_enter Try.func57, Try.ntmps57
  go_wp2_with fail
  rw [← hW0.out]
  refine NH.out.mono ?_
  rintro e1 w2 ⟨A9, c9, fp, rfl, hl, hf, x2⟩
  have hcap := hl.cap
  have HL := hide hl
  have HFP := hide hf
  have z := X.out.size
  replace X := hide (X.out.trans x2)
  clear hl hf x2
  obtain ⟨L, hL⟩ : ∃ L, Hid ((pairs (openP d) d.1).length = L) := ⟨_, rfl⟩
  rw [hL.out] at hcap ⊢
  go_wp2
  go_ret
  exact ⟨A9, c9, fp, by rw [hL.out]; rfl, HL.out, fun i hi => by have := HFP.out i hi; omega, X.out⟩

set_option maxRecDepth 100000 in
set_option maxHeartbeats 4000000 in
theorem i.OpenCalls_law (w : World) (v : Value) (d : ShD) (h : kSh.rd w v d) (hok : kSh.ok d) :
    Calls Try.prog 18 #[v] w fun e w' => ∃ v0, e = .returned (.tuple #[v0, .bool (openCallsF d).2]) ∧ kII.fr w' w.heap.size w'.heap.size v0 (openCallsF d).1 ∧ kII.ok (openCallsF d).1 ∧ Ext w w' := by
  obtain ⟨A, c, A', c', D, e, rfl, h1, h2, h3⟩ := kSh.lr h
  have hok' : kdSh.wt d ≤ 1048576 := hok
  rw [kdSh.wt_eq] at hok'
  have hw1 : wtL kdItem d.1 ≤ 1048576 := by have : kdItS.wt d.1 = wtL kdItem d.1 := rfl; omega
  have k1 := wtL_len kdItem d.1
  have a1 := h1.1; have a2 := h1.2.1
  have HR := hide h
  have H1 := hide h1
  have HW1 := hide hw1
  have hn0 : d.1.length ≤ 1048576 := by omega
  clear h h1 h2 h3 hok' hw1 k1
  obtain ⟨n, hn⟩ : ∃ n, Hid (d.1.length = n) := ⟨_, rfl⟩
  obtain ⟨n', hn'⟩ : ∃ n', Hid (d.2.1.length = n') := ⟨_, rfl⟩
  obtain ⟨m', hm'⟩ : ∃ n', Hid (d.2.2.length = n') := ⟨_, rfl⟩
  rw [hn.out] at a1 hn0
  rw [hn.out, hn'.out, hm'.out] at HR ⊢
  obtain ⟨W0, hW0⟩ : ∃ W0, Hid (W0 = w.alloc (.cells #[.slice A n c, .slice A' n' c', .slice D m' e] 28)) := ⟨_, rfl⟩
  have X : Hid (Ext w W0) := by rw [hW0.out]; exact Ext.alloc w _
  have B0 : Hid (Blk W0 w.heap.size #[.slice A n c, .slice A' n' c', .slice D m' e] 28) := by rw [hW0.out]; exact Blk.new rfl _ _
  obtain ⟨F, hF⟩ : ∃ F, Hid (openCallsF d = F) := ⟨_, rfl⟩
  rw [hF.out]
  go_enter Try.func18, Try.ntmps18
  go_wp2_with fail
  rw [← hW0.out]
  clear hW0
  refine (i.IsSheet_m _ _ d (kSh.rd_ext HR.out X.out) hok).mono ?_
  rintro e1 w1 ⟨rfl, x1⟩
  replace X := hide (X.out.trans x1)
  replace B0 := hide (B0.out.ext x1)
  clear x1
  have cB := B0.out.cell
  cases hs : sheetB d
  · have HF : Hid (F = ([], false)) := by show _ = _; rw [← hF.out]; simp [openCallsF, hs]
    clear hs
    go_wp2
    go_ret2
    rw [HF.out]
    exact ⟨_, rfl, kII.fr_nil _ _ _, Nat.zero_le _, X.out⟩
  have HS := hide hs
  have HF : Hid (F = (pairs (openP d) d.1, true)) := by show _ = _; rw [← hF.out]; simp [openCallsF, hs]
  have hit : itemsB d.1 = true := by simp only [sheetB, cleanB, Bool.and_eq_true] at hs; exact hs.1.1.1.1.1
  have OK := hide (pairs_ok (openP d) hit)
  clear hs hit hF
  go_wp2_with fail
  refine (i.openCalls_m _ _ d (kSh.rd_ext HR.out X.out) hok HS.out).mono ?_
  rintro e1 w2 ⟨A9, c9, fp, rfl, hl, hf, x2⟩
  have hcap := hl.cap
  have z := X.out.size
  have FR := hide (kII.of_LO (lo := w.heap.size) hl (fun i hi => by have := hf i hi; omega) rfl)
  replace X := hide (X.out.trans x2)
  clear hl hf x2 cB
  obtain ⟨L, hL⟩ : ∃ L, Hid ((pairs (openP d) d.1).length = L) := ⟨_, rfl⟩
  rw [hL.out] at hcap FR ⊢
  go_wp2
  go_ret2
  rw [HF.out]
  exact ⟨_, rfl, FR.out, OK.out, X.out⟩

set_option maxRecDepth 100000 in
set_option maxHeartbeats 4000000 in
theorem s.OpenCalls_law (w : World) (v : Value) (d : ShD) (h : kSh.rd w v d) (hok : kSh.ok d) :
    Calls Try.prog 22 #[v] w fun e w' => ∃ v0, e = .returned (.tuple #[v0, .bool (openCallsF d).2]) ∧ kII.fr w' w.heap.size w'.heap.size v0 (openCallsF d).1 ∧ kII.ok (openCallsF d).1 ∧ Ext w w' := by
  obtain ⟨A, c, A', c', D, e, rfl, h1, h2, h3⟩ := kSh.lr h
  have hok' : kdSh.wt d ≤ 1048576 := hok
  rw [kdSh.wt_eq] at hok'
  have hw1 : wtL kdItem d.1 ≤ 1048576 := by have : kdItS.wt d.1 = wtL kdItem d.1 := rfl; omega
  have k1 := wtL_len kdItem d.1
  have a1 := h1.1; have a2 := h1.2.1
  have HR := hide h
  have H1 := hide h1
  have HW1 := hide hw1
  have hn0 : d.1.length ≤ 1048576 := by omega
  clear h h1 h2 h3 hok' hw1 k1
  obtain ⟨n, hn⟩ : ∃ n, Hid (d.1.length = n) := ⟨_, rfl⟩
  obtain ⟨n', hn'⟩ : ∃ n', Hid (d.2.1.length = n') := ⟨_, rfl⟩
  obtain ⟨m', hm'⟩ : ∃ n', Hid (d.2.2.length = n') := ⟨_, rfl⟩
  rw [hn.out] at a1 hn0
  rw [hn.out, hn'.out, hm'.out] at HR ⊢
  obtain ⟨W0, hW0⟩ : ∃ W0, Hid (W0 = w.alloc (.cells #[.slice A n c, .slice A' n' c', .slice D m' e] 28)) := ⟨_, rfl⟩
  have X : Hid (Ext w W0) := by rw [hW0.out]; exact Ext.alloc w _
  have B0 : Hid (Blk W0 w.heap.size #[.slice A n c, .slice A' n' c', .slice D m' e] 28) := by rw [hW0.out]; exact Blk.new rfl _ _
  obtain ⟨F, hF⟩ : ∃ F, Hid (openCallsF d = F) := ⟨_, rfl⟩
  rw [hF.out]
  go_enter Try.func22, Try.ntmps22
  go_wp2_with fail
  rw [← hW0.out]
  clear hW0
  refine (s.caGood_m _ _ d (kSh.rd_ext HR.out X.out) hok).mono ?_
  rintro e1 w1 ⟨rfl, x1⟩
  replace X := hide (X.out.trans x1)
  replace B0 := hide (B0.out.ext x1)
  clear x1
  have cB := B0.out.cell
  cases hs : sheetB d
  · have HF : Hid (F = ([], false)) := by show _ = _; rw [← hF.out]; simp [openCallsF, hs]
    clear hs
    go_wp2
    go_ret2
    rw [HF.out]
    exact ⟨_, rfl, kII.fr_nil _ _ _, Nat.zero_le _, X.out⟩
  have HS := hide hs
  have HF : Hid (F = (pairs (openP d) d.1, true)) := by show _ = _; rw [← hF.out]; simp [openCallsF, hs]
  have hit : itemsB d.1 = true := by simp only [sheetB, cleanB, Bool.and_eq_true] at hs; exact hs.1.1.1.1.1
  have OK := hide (pairs_ok (openP d) hit)
  clear hs hit hF
  go_wp2_with fail
  refine (s.caOpen_m _ _ d (kSh.rd_ext HR.out X.out) hok HS.out).mono ?_
  rintro e1 w2 ⟨A9, c9, fp, rfl, hl, hf, x2⟩
  have hcap := hl.cap
  have z := X.out.size
  have FR := hide (kII.of_LO (lo := w.heap.size) hl (fun i hi => by have := hf i hi; omega) rfl)
  replace X := hide (X.out.trans x2)
  clear hl hf x2 cB
  obtain ⟨L, hL⟩ : ∃ L, Hid ((pairs (openP d) d.1).length = L) := ⟨_, rfl⟩
  rw [hL.out] at hcap FR ⊢
  go_wp2
  go_ret2
  rw [HF.out]
  exact ⟨_, rfl, FR.out, OK.out, X.out⟩
end Go.Proofs.Ytofmfagdaiphaaa
