/- The laws' own small functions; plain laws on bases: they add up by families, nothing called down is worth more. -/
import Derived.Test.YtcngiipdffjkfaaEQ
import Derived.Deep.Quiet
namespace Go.Proofs.Ytcngiipdffjkfaa
open Go.RowKit Go.Sort
set_option linter.unusedVariables false

set_option maxHeartbeats 1000000 in
theorem l.sameInts_same (A A' : Option Addr) (n c c' B B' : Nat) (zs : List Int) (w : World) (h : SlI w B A n zs) (h' : SlI w B' A' n zs) (hn : n ≤ 1048576) :
    Calls Try.prog 10 #[.slice A n c, .slice A' n c'] w fun e w' => e = .returned (.bool true) ∧ Ext w w' := by
  have HL := hide h.len
  have HW := hide h
  have HW' := hide h'
  clear h h'
  have hne : ((n : Int) != (n : Int)) = false := by simp
  go_enter Try.func10, Try.ntmps10
  go_wp2
  go_loopw [13] (fun i wr => ∃ k m : Nat, k ≤ n ∧ i = .int .i64 k ∧ wr = w.drewN m) (fun i _ => n - (intOf i).toNat)
  case atStart => exact ⟨0, 0, Nat.zero_le _, rfl, rfl⟩
  case round =>
    obtain ⟨k, m, hk, rfl, rfl⟩ := hrel
    by_cases hlt : k < n
    · obtain ⟨b, off, rfl, hb, hc⟩ := HW.out.cells (by omega)
      obtain ⟨b', off', rfl, hb', hc'⟩ := HW'.out.cells (by omega)
      have hck := hc k hlt
      have hck' := hc' k hlt
      clear hc hc'
      have i1 : (k : Int) < n := by omega
      go_wp2
      go_quiet (fail)
      go_wp2
      go_roundw
      case rel => exact ⟨k + 1, m + nq, by omega, by go_num, rfl⟩
      case measure => simp [intOf]; omega
    · go_wp2
      go_ret
      exact ⟨rfl, Ext.drewN w m⟩
theorem sum_take (zs : List Int) (k : Nat) (hk : k < zs.length) : (zs.take (k + 1)).sum = (zs.take k).sum + zs.getD k 0 := by
  rw [List.take_succ_eq_append_getElem hk, List.sum_append]
  simp [List.getD_eq_getElem?_getD, hk]
theorem sumTake_bd (zs : List Int) (h : Small zs) (k : Nat) : -1000000000 * (k : Int) ≤ (zs.take k).sum ∧ (zs.take k).sum ≤ 1000000000 * (k : Int) := by
  induction k with
  | zero => simp
  | succ k ih =>
    by_cases hk : k < zs.length
    · rw [sum_take zs k hk]
      have h1 : zs.getD k 0 ∈ zs := by simp [List.getD_eq_getElem?_getD, hk]
      have h2 := h _ h1
      omega
    · rw [List.take_of_length_le (by omega)] at ih ⊢
      omega
set_option maxHeartbeats 1000000 in
theorem l.pSum_m (A : Option Addr) (n c B : Nat) (zs : List Int) (w : World) (h : SlI w B A n zs) (hn : n ≤ 1048576) (hz : Small zs) :
    Calls Try.prog 14 #[.slice A n c] w fun e w' => e = .returned (.int .i64 zs.sum) ∧ w' = w := by
  have hlen := h.len
  have HL := hide h.len
  have HW := hide h
  have BD := hide (sumTake_bd zs hz)
  have ST := hide (sum_take zs)
  have TA : Hid ((zs.take n).sum = zs.sum) := by show _ = _; rw [List.take_of_length_le (by omega)]
  clear h hz hlen
  go_enter Try.func14, Try.ntmps14
  go_wp2
  go_loopw [8, 3] (fun i s wr => ∃ k : Nat, k ≤ n ∧ i = .int .i64 k ∧ s = .int .i64 (zs.take k).sum ∧ wr = w) (fun i _ _ => n - (intOf i).toNat)
  case atStart => exact ⟨0, Nat.zero_le _, rfl, by simp, rfl⟩
  case round =>
    obtain ⟨k, hk, rfl, rfl, rfl⟩ := hrel
    have bk := BD.out k
    by_cases hlt : k < n
    · obtain ⟨b, off, rfl, hb, hc⟩ := HW.out.cells (by omega)
      have hck := hc k hlt
      have st := hide (ST.out k (by rw [HL.out]; exact hlt))
      have bz := BD.out (k + 1)
      rw [st.out] at bz
      have i1 : (k : Int) < n := by omega
      obtain ⟨s0, hs0⟩ : ∃ s0, Hid ((zs.take k).sum = s0) := ⟨_, rfl⟩
      rw [hs0.out] at bk bz st ⊢
      generalize zs.getD k 0 = y at *
      clear hc
      go_wp2
      go_roundw
      case rel => exact ⟨k + 1, by omega, by go_num, by rw [st.out], by first | rfl | trivial⟩
      case measure => simp [intOf]; omega
    · obtain rfl : k = n := by omega
      rw [TA.out]
      go_wp2
      go_ret
      exact ⟨rfl, rfl⟩
def bigB (n n' : Nat) : Bool := decide ((1048576 : Int) < n) || decide ((1048576 : Int) - n < n')
set_option maxHeartbeats 1000000 in
theorem l.big_m (A A' : Option Addr) (n c n' c' : Nat) (w : World) (h1 : n ≤ c) (h2 : c ≤ 9223372036854775807) (h3 : n' ≤ c') (h4 : c' ≤ 9223372036854775807) :
    Calls Try.prog 4 #[.slice A n c, .slice A' n' c'] w fun e w' => e = .returned (.bool (bigB n n')) ∧ w' = w := by
  obtain ⟨R, hR⟩ : ∃ R, Hid (bigB n n' = R) := ⟨_, rfl⟩
  rw [hR.out]
  by_cases hb : (1048576 : Int) < n
  · have e : Hid (R = true) := by show _ = _; rw [← hR.out]; simp [bigB, hb]
    go_enter Try.func4, Try.ntmps4
    go_wp2
    go_ret
    exact ⟨ret_bool e.out.symm, rfl⟩
  · by_cases hb2 : (1048576 : Int) - n < n'
    · have e : Hid (R = true) := by show _ = _; rw [← hR.out]; simp [bigB, hb2]
      go_enter Try.func4, Try.ntmps4
      go_wp2
      go_ret
      exact ⟨ret_bool e.out.symm, rfl⟩
    · have e : Hid (R = false) := by show _ = _; rw [← hR.out]; simp [bigB, hb, hb2]
      go_enter Try.func4, Try.ntmps4
      go_wp2
      go_ret
      exact ⟨ret_bool e.out.symm, rfl⟩

/-! ### Families add up -/
theorem set_sum (zs : List Int) (i : Nat) (hi : i < zs.length) (z : Int) : (zs.set i z).sum = zs.sum - zs.getD i 0 + z := by
  induction zs generalizing i with
  | nil => simp at hi
  | cons y t ih =>
    cases i with
    | zero => simp; omega
    | succ i =>
      have := ih i (by simpa using hi)
      simp only [List.set_cons_succ, List.sum_cons, this, List.getD_cons_succ]
      omega
theorem fam_sum {d : CoD} (hd : CodeOk d) (xs : List ItD) (k : Nat) : (famN d xs k).sum = (basesN d xs k).sum := by
  induction k with
  | zero => rfl
  | succ k ih =>
    have hf := familyF_bd hd (xs.getD k noItem)
    rw [basesN_succ, List.sum_append, ← ih]
    show ((famN d xs k).set _ _).sum = _
    rw [set_sum _ _ (by rw [famN_len]; omega)]
    simp
    omega
theorem fam_sum_all {d : CoD} (hd : CodeOk d) (xs : List ItD) : (famN d xs xs.length).sum = (basesF d xs).sum := fam_sum hd xs xs.length
theorem fam_small {d : CoD} (hd : CodeOk d) {xs : List ItD} (ho : LsOk d xs) : Small (famN d xs xs.length) := by
  intro z hz
  obtain ⟨i, hi, rfl⟩ := List.getElem_of_mem hz
  have h := famN_bd hd ho xs.length i
  rw [List.getD_eq_getElem?_getD, List.getElem?_eq_getElem hi] at h
  simp at h
  have := ho.n
  omega
theorem bases_small {d : CoD} (hd : CodeOk d) {xs : List ItD} (ho : LsOk d xs) : Small (basesF d xs) := fun z hz => by
  have := basesN_bd hd ho xs.length z hz
  omega
theorem base_le_full {d : CoD} (hd : CodeOk d) {xs : List ItD} (ho : LsOk d xs) {k : Nat} {x : ItD} (hx : xs[k]? = some x) : baseF d xs k ≤ fullF d x ∧ 0 ≤ baseF d xs k := by
  have h3 := (ho.it k x hx).n3
  have hb := fullF_bd hd x h3
  have e : xs.getD k noItem = x := getD_some hx
  unfold baseF
  rw [e]
  split
  · omega
  · split <;> omega
/-! ### Nothing called down is worth more -/
theorem worthE_le {kp : Int} {x : ElD} (mark : Int) (hk : 0 ≤ kp ∧ kp ≤ 100) (hx : 0 ≤ x.2.2.2) : worthE kp x mark ≤ worthE kp x 0 := by
  unfold worthE
  rw [if_neg (show ¬ (0 : Int) = 1 by omega), if_neg (show ¬ (0 : Int) = 2 by omega), if_neg (show ¬ (0 : Int) = 3 by omega)]
  split
  · have h1 : x.2.2.2 * kp ≤ x.2.2.2 * 100 := Int.mul_le_mul_of_nonneg_left hk.2 hx
    omega
  · split
    · omega
    · split <;> omega
theorem worthN_le {d : CoD} (hd : CodeOk d) (nm : List UInt8) (mark : Int) : worthN d nm mark ≤ worthN d nm 0 := by
  unfold worthN
  have hk := hd.kep
  cases hx : d.1[(findF d.1 nm).toNat]? with
  | none =>
    rw [List.getD_eq_getElem?_getD, hx]
    exact worthE_le mark (by omega) (by decide)
  | some y =>
    rw [getD_some hx]
    have := elB_ok (hd.els _ _ hx)
    exact worthE_le mark (by omega) (by omega)
theorem sumN_clean {d : CoD} (hd : CodeOk d) (x : ItD) (k : Nat) (hk : k ≤ x.1.length) : sumN d x k ≤ sumN d (cleanD x) k := by
  induction k with
  | zero => exact Int.le_refl _
  | succ k ih =>
    rw [sumN_succ, sumN_succ]
    have h1 := ih (by omega)
    have h2 : worthAt d x k ≤ worthAt d (cleanD x) k := by
      unfold worthAt
      have e : (cleanD x).2.1.getD k 0 = 0 := by
        show (List.replicate x.1.length (0 : Int)).getD k 0 = 0
        rw [List.getD_eq_getElem?_getD, List.getElem?_replicate]
        split <;> rfl
      rw [e]
      exact worthN_le hd _ _
    omega
theorem full_clean {d : CoD} (hd : CodeOk d) (x : ItD) : fullF d x ≤ fullF d (cleanD x) := by
  have h : (worthsF d x).sum ≤ (worthsF d (cleanD x)).sum := sumN_clean hd x x.1.length (Nat.le_refl _)
  have hb := hd.bon
  unfold fullF
  show (if x.2.2 then _ else _) ≤ (if x.2.2 then _ else _)
  split
  · unfold roundI
    have h2 : (worthsF d x).sum * (100 + d.2.2.2.1) ≤ (worthsF d (cleanD x)).sum * (100 + d.2.2.2.1) := Int.mul_le_mul_of_nonneg_right h (by omega)
    omega
  · exact h
/-- No item before k has k's first name. -/
def firstB (xs : List ItD) (k j : Nat) : Bool := (xs.take j).all (fun y => !(y.1.getD 0 [] == (xs.getD k noItem).1.getD 0 []))
theorem firstB_succ {xs : List ItD} {k j : Nat} {y : ItD} (hy : xs[j]? = some y) : firstB xs k (j + 1) = (firstB xs k j && !(y.1.getD 0 [] == (xs.getD k noItem).1.getD 0 [])) := by
  obtain ⟨hj, rfl⟩ := List.getElem?_eq_some_iff.1 hy
  unfold firstB
  rw [List.take_succ_eq_append_getElem hj, List.all_append]
  simp
theorem rep_first {xs : List ItD} {k : Nat} (h : firstB xs k k = true) : repF xs k = 0 := by
  unfold repF repN
  rw [List.length_eq_zero_iff, List.filter_eq_nil_iff]
  intro y hy
  have := (List.all_eq_true.1 h) y hy
  simp only [repP]
  simp at this ⊢
  intro e
  exact absurd e (fun e => this (by simpa using e))
theorem first_clean {xs : List ItD} {k : Nat} (hk : k < xs.length) (h : firstB xs k k = true) : firstB (xs.map cleanD) k k = true := by
  unfold firstB at h ⊢
  rw [List.all_eq_true] at h ⊢
  intro y hy
  rw [← List.map_take] at hy
  obtain ⟨z, hz, rfl⟩ := List.mem_map.1 hy
  have h1 := h z hz
  have e : (xs.map cleanD).getD k noItem = cleanD (xs.getD k noItem) := by
    simp [List.getD_eq_getElem?_getD, List.getElem?_map, hk]
  rw [e]
  exact h1
theorem loss_nn {d : CoD} (hd : CodeOk d) {xs : List ItD} {k : Nat} (hk : k < xs.length) (h : firstB xs k k = true) : 0 ≤ (lossN d xs xs.length).getD k 0 := by
  have e : (lossN d xs xs.length).getD k 0 = baseF d (xs.map cleanD) k - baseF d xs k := by
    unfold lossN
    rw [List.getD_eq_getElem?_getD, List.getElem?_map, List.getElem?_range hk]
    simp [lossA, hk]
  rw [e]
  have hr := hd.rep
  have e1 : (xs.map cleanD).getD k noItem = cleanD (xs.getD k noItem) := by
    simp [List.getD_eq_getElem?_getD, List.getElem?_map, hk]
  unfold baseF
  rw [rep_first h, rep_first (first_clean hk h), e1, if_pos (by omega), if_pos (by omega)]
  have := full_clean hd (xs.getD k noItem)
  omega
end Go.Proofs.Ytcngiipdffjkfaa
