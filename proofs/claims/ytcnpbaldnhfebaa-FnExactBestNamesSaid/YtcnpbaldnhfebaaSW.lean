/- The library's merge in place where one part is a single element. -/
import Derived.Test.YtcnpbaldnhfebaaSV
namespace Go.Proofs.Ytcnpbaldnhfebaa
open Go.RowKit Go.Sort
set_option linter.unusedVariables false

theorem la_app {α : Type} [Inhabited α] {P Q : List α} {i q : Nat} (h : P.length + q = i) : (P ++ Q).toArray[i]! = Q.getD q default := by subst h; rw [la_get, sm_getr]
theorem la_appl {α : Type} [Inhabited α] {P Q Z : List α} {i q : Nat} (h : P.length + q = i) (hq : q < Q.length) : (P ++ (Q ++ Z)).toArray[i]! = Q.getD q default := by rw [la_app h, sm_getl hq]

set_option maxHeartbeats 4000000 in
set_option maxRecDepth 1000000 in
theorem symMerge_one {α : Type} [Inhabited α] {T : α → α → Prop} (tr : ∀ x y z, T x y → T y z → T x z) (v : α → Int) (cf : α → α → Int) (g : Nat) (cb : Array Value) (blk off cap : Nat) (d0 : Array α) (w0 w : World) (R : Row1 (eI v) w0 blk off d0)
    (eg : ∀ args w, (callFunc g args).run Try.prog w = .ok (.enter g args) w) (hcmp : CmpLays1 Try.prog g cb (eI v) cf blk off d0.size w0) (hsz : d0.size < 4611686018427387904) (P U Z : List α) (x : α) (a m b : Nat)
    (ha : P.length = a) (hm : a + 1 = m) (hb : m + U.length = b) (hs : b + Z.length = d0.size) (sU : U.Pairwise T) (hc : CmpOf T (ltOf cf) [x] U) (S : SW (eI v) w0 blk off (P ++ ([x] ++ (U ++ Z))).toArray w) :
    Calls Try.prog 76 #[.slice (some ⟨blk, off, none⟩) d0.size cap, .int .i64 a, .int .i64 m, .int .i64 b, .func (.func g) #[] cb] w fun e w' => e = .returned (.tuple #[]) ∧ ∃ M, M.Perm ([x] ++ U) ∧ M.Pairwise T ∧ SW (eI v) w0 blk off (P ++ (M ++ Z)).toArray w' := by
  have FIN : Hid (∀ q, q ≤ U.length → (q = 0 ∨ ltOf cf (U.getD (q - 1) default) x = true) → (q = U.length ∨ ltOf cf (U.getD q default) x = false) → (U.take q ++ x :: U.drop q).Pairwise T ∧ (U.take q ++ x :: U.drop q).Perm (x :: U)) := fun q h1 h2 h3 => sm_one tr sU hc h1 h2 h3
  obtain ⟨l, hl⟩ : ∃ l, Hid (U.length = l) := ⟨_, rfl⟩
  have e0 : P ++ ([x] ++ (U ++ Z)) = bub P x U Z 0 := by simp [bub]
  rw [e0] at S
  have DX : Hid ((bub P x U Z 0).toArray[a]! = x) := by
    show _ = _
    rw [← e0, la_app (q := 0) (by omega)]
    rfl
  have DU : Hid (∀ q, q < l → (bub P x U Z 0).toArray[m + q]! = U.getD q default) := fun q hq => by
    rw [← e0, ← List.append_assoc, la_appl (q := q) (by rw [List.length_append, List.length_singleton]; omega) (by have := hl.out; omega)]
  have LEN : Hid (∀ t, (bub P x U Z t).toArray.size = d0.size) := fun t => by rw [List.size_toArray, bub_len]; omega
  have STP : Hid (∀ t, t < l → swp (bub P x U Z t).toArray (a + t) (a + t + 1) = (bub P x U Z (t + 1)).toArray) := fun t ht => bub_up (by have := hl.out; omega) (by omega) rfl
  have END : Hid (∀ t, bub P x U Z t = P ++ ((U.take t ++ x :: U.drop t) ++ Z)) := fun t => bub_mid P x U Z t
  rw [hl.out] at hb
  generalize bub P x U Z = f at *
  have HC : Hid _ := hcmp
  have RR := hide R
  have S0 := hide S
  have wma : IntKind.i64.wrap ((m : Int) - (a : Int)) = 1 := by rw [IntWalk.i64_in _ (by omega)]; omega
  have mixed : Try.prog.follows .mixedOrders = true := by kernel_rfl
  have HCO := hide hc
  have TR := hide tr
  have SU := hide sU
  clear hcmp R S hc tr sU e0
  go_enter Try.func76, Try.ntmps76
  go_wp2
  go_loopw [10, 11] (fun s10 s11 wr => ∃ i j : Nat, s10 = .int .i64 i ∧ s11 = .int .i64 j ∧ m ≤ i ∧ i ≤ j ∧ j ≤ b ∧ Hid (i - m = 0 ∨ ltOf cf (U.getD (i - m - 1) default) x = true) ∧ Hid (j = b ∨ ltOf cf (U.getD (j - m) default) x = false) ∧ Hid (SW (eI v) w0 blk off (f 0).toArray wr)) (fun s10 s11 _ => (intOf s11).toNat - (intOf s10).toNat)
  case atStart => exact ⟨m, b, rfl, rfl, Nat.le_refl _, by omega, Nat.le_refl _, .inl (by omega), .inl rfl, S0⟩
  case round =>
    obtain ⟨i, j, rfl, rfl, hmi, hij, hjb, Hi, Hj, S1⟩ := hrel
    by_cases hlt : i < j
    · have hltz : (i : Int) < (j : Int) := by omega
      obtain ⟨h, hh⟩ : ∃ h, Hid ((i + j) / 2 = h) := ⟨_, rfl⟩
      have h1 : i ≤ h := by have := hh.out; omega
      have h2 : h < j := by have := hh.out; omega
      have eh : ((i : Int) + (j : Int)) / 2 = (h : Int) := by have := hh.out; omega
      have l1 := LEN.out 0
      have c1 := sw_atl S1.out RR.out l1 (i := h) rfl (by rw [l1]; omega)
      have c2 := sw_atl S1.out RR.out l1 (i := a) rfl (by rw [l1]; omega)
      have du := DU.out (h - m) (by omega)
      rw [show m + (h - m) = h by omega] at du
      rw [du] at c1
      rw [DX.out] at c2
      have CQ := S1.out.cmp HC.out l1 (U.getD (h - m) default) x
      obtain ⟨c, hcv⟩ : ∃ c, Hid (cf (U.getD (h - m) default) x = c) := ⟨_, rfl⟩
      rw [hcv.out] at CQ
      have LT : Hid (ltOf cf (U.getD (h - m) default) x = decide (c < 0)) := by show _ = _; unfold ltOf; rw [hcv.out]
      have i1 : (h : Int) < (d0.size : Int) := by omega
      have i2 : (a : Int) < (d0.size : Int) := by omega
      have NI : Hid (c < 0 → (h + 1 - m = 0 ∨ ltOf cf (U.getD (h + 1 - m - 1) default) x = true)) := fun hn => .inr (by rw [show h + 1 - m - 1 = h - m by omega, LT.out, decide_eq_true hn])
      have NJ : Hid (¬ c < 0 → (h = b ∨ ltOf cf (U.getD (h - m) default) x = false)) := fun hn => .inr (by rw [LT.out, decide_eq_false hn])
      clear du hcv hh l1 LT
      generalize U.getD (h - m) default = y at CQ c1
      go_wp2_with fail
      go_quiet_grown (first | (go_at_fn g; refine Calls.grown_of (CQ _ _)))
      have S2 : Hid (SW (eI v) w0 blk off (f 0).toArray (grow (wr.drewN nq) osq)) := S1.out.grown nq osq
      clear c1 c2 CQ S1
      generalize grow (wr.drewN nq) osq = w2 at *
      by_cases hn : c < 0
      · go_wp2
        go_roundw
        case rel => exact ⟨h + 1, j, by go_num, rfl, by omega, by omega, hjb, NI.out hn, Hj, S2⟩
        case measure => simp [intOf]; omega
      · go_wp2
        go_roundw
        case rel => exact ⟨i, h, rfl, rfl, hmi, h1, by omega, Hi, NJ.out (by omega), S2⟩
        case measure => simp [intOf]; omega
    · have e : i = j := by omega
      subst e
      have w1 : IntKind.i64.wrap ((i : Int) - 1) = ((i - 1 : Nat) : Int) := by rw [IntWalk.i64_in _ (by omega)]; omega
      go_wp2
      go_loopw [13] (fun s13 wr => ∃ t : Nat, s13 = .int .i64 (a + t : Nat) ∧ t ≤ i - m ∧ Hid (SW (eI v) w0 blk off (f t).toArray wr)) (fun s13 _ => i - (intOf s13).toNat)
      case atStart => exact ⟨0, rfl, Nat.zero_le _, S1⟩
      case round =>
        obtain ⟨t, rfl, ht, S5⟩ := hrel
        obtain ⟨k, hk⟩ : ∃ k, Hid (a + t = k) := ⟨_, rfl⟩
        obtain ⟨k1, hk1⟩ : ∃ k1, Hid (a + t + 1 = k1) := ⟨_, rfl⟩
        by_cases hlt : t < i - m
        · have l1 := LEN.out t
          have c1 := sw_at1 S5.out RR.out l1 hk.out (by rw [l1]; omega)
          have c2 := sw_at1 S5.out RR.out l1 hk1.out (by rw [l1]; omega)
          have f1 := sw_fr1 S5.out RR.out l1 hk.out (by rw [l1]; omega)
          have f2 := sw_fr1 S5.out RR.out l1 hk1.out (by rw [l1]; omega)
          have S2 := hide (sw_ex1 S5.out RR.out hk.out hk1.out (by rw [l1]; omega) (by rw [l1]; omega) (STP.out t (by omega)))
          obtain ⟨u, c3⟩ := S5.out.c2 RR.out l1 (a + t) (a + t + 1) (by rw [l1]; omega) (by rw [l1]; omega) (.int .i64 (v (f t).toArray[a + t + 1]!))
          have k2 : k < i - 1 := by have := hk.out; omega
          have k3 : k + 1 = k1 := by have := hk.out; have := hk1.out; omega
          have i1 : (k : Int) < (d0.size : Int) := by omega
          have i2 : (k1 : Int) < (d0.size : Int) := by omega
          have kz : (k : Int) < ((i - 1 : Nat) : Int) := by omega
          have wk : IntKind.i64.wrap ((k : Int) + 1) = (k1 : Int) := by rw [IntWalk.i64_in _ (by omega)]; omega
          rw [hk1.out, hk.out] at c3
          rw [hk.out] at c1
          rw [hk1.out] at c2
          rw [hk1.out, hk.out] at S2
          rw [hk.out]
          generalize v (f t).toArray[k]! = p at *
          generalize v (f t).toArray[k1]! = q at *
          have K1 := hide k3
          clear k3 k2 l1 S5
          go_wp2_with fail
          go_big_region_o
          clear c1 c2 c3 f1 f2
          generalize ((wr.setCell ⟨blk, off + k, none⟩ (.int .i64 q)).setCell ⟨blk, off + k1, none⟩ (.int .i64 p)).drew = w3 at *
          go_wp2
          go_roundw
          case rel => exact ⟨t + 1, by rw [show a + (t + 1) = k1 by have := hk1.out; omega], by omega, S2⟩
          case measure => have h1 := K1.out; have h2 := hk.out; simp [intOf] <;> omega
        · have kz : ¬ (k : Int) < ((i - 1 : Nat) : Int) := by have := hk.out; omega
          have e : t = i - m := by omega
          rw [hk.out]
          go_wp2
          refine bodyPost_ret (results_none rfl _ _ _) rfl ?_
          obtain ⟨s1, p1⟩ := FIN.out (i - m) (by have := hl.out; omega) Hi.out (by have := hl.out; rcases Hj.out with h | h; exact .inl (by omega); exact .inr h)
          refine ⟨rfl, _, p1, s1, ?_⟩
          rw [← END.out, ← e]
          exact S5.out

set_option maxHeartbeats 4000000 in
set_option maxRecDepth 1000000 in
theorem symMerge_last {α : Type} [Inhabited α] {T : α → α → Prop} (tr : ∀ x y z, T x y → T y z → T x z) (v : α → Int) (cf : α → α → Int) (g : Nat) (cb : Array Value) (blk off cap : Nat) (d0 : Array α) (w0 w : World) (R : Row1 (eI v) w0 blk off d0)
    (eg : ∀ args w, (callFunc g args).run Try.prog w = .ok (.enter g args) w) (hcmp : CmpLays1 Try.prog g cb (eI v) cf blk off d0.size w0) (hsz : d0.size < 4611686018427387904) (P U Z : List α) (y : α) (a m b : Nat)
    (h2 : 2 ≤ U.length) (ha : P.length = a) (hm : a + U.length = m) (hb : m + 1 = b) (hs : b + Z.length = d0.size) (sU : U.Pairwise T) (hc : CmpOf T (ltOf cf) U [y]) (S : SW (eI v) w0 blk off (P ++ (U ++ ([y] ++ Z))).toArray w) :
    Calls Try.prog 76 #[.slice (some ⟨blk, off, none⟩) d0.size cap, .int .i64 a, .int .i64 m, .int .i64 b, .func (.func g) #[] cb] w fun e w' => e = .returned (.tuple #[]) ∧ ∃ M, M.Perm (U ++ [y]) ∧ M.Pairwise T ∧ SW (eI v) w0 blk off (P ++ (M ++ Z)).toArray w' := by
  have FIN : Hid (∀ q, q ≤ U.length → (q = 0 ∨ ltOf cf y (U.getD (q - 1) default) = false) → (q = U.length ∨ ltOf cf y (U.getD q default) = true) → (U.take q ++ y :: U.drop q).Pairwise T ∧ (U.take q ++ y :: U.drop q).Perm (U ++ [y])) := fun q h1 h2 h3 => sm_last tr sU hc h1 h2 h3
  obtain ⟨l, hl⟩ : ∃ l, Hid (U.length = l) := ⟨_, rfl⟩
  have e0 : P ++ (U ++ ([y] ++ Z)) = bub P y U Z U.length := by rw [bub_end, List.append_assoc]
  rw [e0] at S
  have DX : Hid ((bub P y U Z U.length).toArray[m]! = y) := by
    show _ = _
    rw [← e0, ← List.append_assoc, la_app (q := 0) (by rw [List.length_append]; omega)]
    rfl
  have DU : Hid (∀ q, q < l → (bub P y U Z U.length).toArray[a + q]! = U.getD q default) := fun q hq => by
    rw [← e0, la_appl (q := q) (by omega) (by have := hl.out; omega)]
  have LEN : Hid (∀ t, (bub P y U Z t).toArray.size = d0.size) := fun t => by rw [List.size_toArray, bub_len]; omega
  have STP : Hid (∀ t, t < l → swp (bub P y U Z (t + 1)).toArray (a + t + 1) (a + t) = (bub P y U Z t).toArray) := fun t ht => bub_down (by have := hl.out; omega) (by omega) rfl
  have END : Hid (∀ t, bub P y U Z t = P ++ ((U.take t ++ y :: U.drop t) ++ Z)) := fun t => bub_mid P y U Z t
  rw [hl.out] at hm h2 S DX DU
  generalize bub P y U Z = f at *
  have HC : Hid _ := hcmp
  have RR := hide R
  have S0 := hide S
  have wma : IntKind.i64.wrap ((m : Int) - (a : Int)) = (l : Int) := by rw [IntWalk.i64_in _ (by omega)]; omega
  have wl : ¬ (l : Int) = 1 := by omega
  have wl2 : ((l : Int) == 1) = false := by simp; omega
  have wbm : IntKind.i64.wrap ((b : Int) - (m : Int)) = 1 := by rw [IntWalk.i64_in _ (by omega)]; omega
  have mixed : Try.prog.follows .mixedOrders = true := by kernel_rfl
  have HCO := hide hc
  have TR := hide tr
  have SU := hide sU
  clear hcmp R S hc tr sU e0
  go_enter Try.func76, Try.ntmps76
  go_wp2
  go_loopw [14, 15] (fun s10 s11 wr => ∃ i j : Nat, s10 = .int .i64 i ∧ s11 = .int .i64 j ∧ a ≤ i ∧ i ≤ j ∧ j ≤ m ∧ Hid (i - a = 0 ∨ ltOf cf y (U.getD (i - a - 1) default) = false) ∧ Hid (j = m ∨ ltOf cf y (U.getD (j - a) default) = true) ∧ Hid (SW (eI v) w0 blk off (f l).toArray wr)) (fun s10 s11 _ => (intOf s11).toNat - (intOf s10).toNat)
  case atStart => exact ⟨a, m, rfl, rfl, Nat.le_refl _, by omega, Nat.le_refl _, .inl (by omega), .inl rfl, S0⟩
  case round =>
    obtain ⟨i, j, rfl, rfl, hmi, hij, hjb, Hi, Hj, S1⟩ := hrel
    by_cases hlt : i < j
    · have hltz : (i : Int) < (j : Int) := by omega
      obtain ⟨h, hh⟩ : ∃ h, Hid ((i + j) / 2 = h) := ⟨_, rfl⟩
      have h1 : i ≤ h := by have := hh.out; omega
      have h2 : h < j := by have := hh.out; omega
      have eh : ((i : Int) + (j : Int)) / 2 = (h : Int) := by have := hh.out; omega
      have l1 := LEN.out l
      have c1 := sw_atl S1.out RR.out l1 (i := h) rfl (by rw [l1]; omega)
      have c2 := sw_atl S1.out RR.out l1 (i := m) rfl (by rw [l1]; omega)
      have du := DU.out (h - a) (by omega)
      rw [show a + (h - a) = h by omega] at du
      rw [du] at c1
      rw [DX.out] at c2
      have CQ := S1.out.cmp HC.out l1 y (U.getD (h - a) default)
      obtain ⟨c, hcv⟩ : ∃ c, Hid (cf y (U.getD (h - a) default) = c) := ⟨_, rfl⟩
      rw [hcv.out] at CQ
      have LT : Hid (ltOf cf y (U.getD (h - a) default) = decide (c < 0)) := by show _ = _; unfold ltOf; rw [hcv.out]
      have i1 : (h : Int) < (d0.size : Int) := by omega
      have i2 : (m : Int) < (d0.size : Int) := by omega
      have NJ : Hid (¬ c < 0 → (h + 1 - a = 0 ∨ ltOf cf y (U.getD (h + 1 - a - 1) default) = false)) := fun hn => .inr (by rw [show h + 1 - a - 1 = h - a by omega, LT.out, decide_eq_false hn])
      have NI : Hid (c < 0 → (h = m ∨ ltOf cf y (U.getD (h - a) default) = true)) := fun hn => .inr (by rw [LT.out, decide_eq_true hn])
      clear du hcv hh l1 LT
      generalize U.getD (h - a) default = x at CQ c1
      by_cases hn : c < 0
      · have hd : decide (c < 0) = true := decide_eq_true hn
        go_wp2_with fail
        go_quiet_grown (first | (go_at_fn g; refine Calls.grown_of (CQ _ _)))
        have S2 : Hid (SW (eI v) w0 blk off (f l).toArray (grow (wr.drewN nq) osq)) := S1.out.grown nq osq
        clear c1 c2 CQ S1
        generalize grow (wr.drewN nq) osq = w2 at *
        go_wp2
        go_roundw
        case rel => exact ⟨i, h, rfl, rfl, hmi, h1, by omega, Hi, NI.out hn, S2⟩
        case measure => simp [intOf]; omega
      · have hd : decide (c < 0) = false := decide_eq_false hn
        go_wp2_with fail
        go_quiet_grown (first | (go_at_fn g; refine Calls.grown_of (CQ _ _)))
        have S2 : Hid (SW (eI v) w0 blk off (f l).toArray (grow (wr.drewN nq) osq)) := S1.out.grown nq osq
        clear c1 c2 CQ S1
        generalize grow (wr.drewN nq) osq = w2 at *
        go_wp2
        go_roundw
        case rel => exact ⟨h + 1, j, by go_num, rfl, by omega, by omega, hjb, NJ.out hn, Hj, S2⟩
        case measure => simp [intOf]; omega
    · have e : i = j := by omega
      subst e
      go_wp2
      go_loopw [17] (fun s13 wr => ∃ t : Nat, s13 = .int .i64 (a + t : Nat) ∧ i - a ≤ t ∧ t ≤ l ∧ Hid (SW (eI v) w0 blk off (f t).toArray wr)) (fun s13 _ => (intOf s13).toNat)
      case atStart => exact ⟨l, by rw [hm], by omega, Nat.le_refl _, S1⟩
      case round =>
        obtain ⟨t, rfl, ht, htl, S5⟩ := hrel
        by_cases hlt : i - a < t
        · obtain ⟨t, rfl⟩ : ∃ t', t = t' + 1 := ⟨t - 1, by omega⟩
          obtain ⟨k, hk⟩ : ∃ k, Hid (a + t = k) := ⟨_, rfl⟩
          obtain ⟨k1, hk1⟩ : ∃ k1, Hid (a + t + 1 = k1) := ⟨_, rfl⟩
          have l1 := LEN.out (t + 1)
          have c1 := sw_at1 S5.out RR.out l1 hk.out (by rw [l1]; omega)
          have c2 := sw_at1 S5.out RR.out l1 hk1.out (by rw [l1]; omega)
          have f1 := sw_fr1 S5.out RR.out l1 hk.out (by rw [l1]; omega)
          have f2 := sw_fr1 S5.out RR.out l1 hk1.out (by rw [l1]; omega)
          have S2 := hide (sw_ex1 S5.out RR.out hk1.out hk.out (by rw [l1]; omega) (by rw [l1]; omega) (STP.out t (by omega)))
          obtain ⟨u, c3⟩ := S5.out.c2 RR.out l1 (a + t + 1) (a + t) (by rw [l1]; omega) (by rw [l1]; omega) (.int .i64 (v (f (t + 1)).toArray[a + t]!))
          have k2 : i < k1 := by have := hk1.out; omega
          have k3 : k + 1 = k1 := by have := hk.out; have := hk1.out; omega
          have i1 : (k : Int) < (d0.size : Int) := by have := hk.out; omega
          have i2 : (k1 : Int) < (d0.size : Int) := by have := hk1.out; omega
          have kz : (i : Int) < (k1 : Int) := by omega
          have wk : IntKind.i64.wrap ((k1 : Int) - 1) = (k : Int) := by rw [IntWalk.i64_in _ (by omega)]; omega
          rw [hk1.out, hk.out] at c3
          rw [hk.out] at c1
          rw [hk1.out] at c2
          rw [hk1.out, hk.out] at S2
          rw [show a + (t + 1) = k1 from hk1.out]
          generalize v (f (t + 1)).toArray[k]! = p at *
          generalize v (f (t + 1)).toArray[k1]! = q at *
          have K1 := hide k3
          clear k3 k2 l1 S5
          go_wp2_with fail
          go_big_region_o
          clear c1 c2 c3 f1 f2
          generalize ((wr.setCell ⟨blk, off + k1, none⟩ (.int .i64 p)).setCell ⟨blk, off + k, none⟩ (.int .i64 q)).drew = w3 at *
          go_wp2
          go_roundw
          case rel => exact ⟨t, by rw [hk.out], by omega, by omega, S2⟩
          case measure => have h1 := K1.out; have h2 := hk.out; simp [intOf] <;> omega
        · have e : t = i - a := by omega
          obtain ⟨k, hk⟩ : ∃ k, Hid (a + t = k) := ⟨_, rfl⟩
          have kz : ¬ (i : Int) < (k : Int) := by have := hk.out; omega
          rw [hk.out]
          go_wp2
          refine bodyPost_ret (results_none rfl _ _ _) rfl ?_
          obtain ⟨s1, p1⟩ := FIN.out (i - a) (by have := hl.out; omega) Hi.out (by have := hl.out; rcases Hj.out with h | h; exact .inl (by omega); exact .inr h)
          refine ⟨rfl, _, p1, s1, ?_⟩
          rw [← END.out, ← e]
          exact S5.out
end Go.Proofs.Ytcnpbaldnhfebaa
