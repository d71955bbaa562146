/- The library's merge in place, whole. -/
import Derived.Test.YtcnpbaldnhfebaaSW
import Derived.Deep.DeepCutAuto
namespace Go.Proofs.Ytcnpbaldnhfebaa
open Go.RowKit Go.Sort
set_option linter.unusedVariables false

set_option maxHeartbeats 8000000 in
set_option maxRecDepth 1000000 in
theorem symMerge_m {α : Type} [Inhabited α] {T : α → α → Prop} (tr : ∀ x y z, T x y → T y z → T x z) (v : α → Int) (cf : α → α → Int) (g : Nat) (cb : Array Value) (blk off cap : Nat) (d0 : Array α) (w0 : World) (R : Row1 (eI v) w0 blk off d0)
    (eg : ∀ args w, (callFunc g args).run Try.prog w = .ok (.enter g args) w) (hcmp : CmpLays1 Try.prog g cb (eI v) cf blk off d0.size w0) (hsz : d0.size < 4611686018427387904) :
    ∀ (N : Nat) (P L U Z : List α) (w : World) (a m b : Nat), L.length + U.length ≤ N → 0 < L.length → 0 < U.length → P.length = a → a + L.length = m → m + U.length = b → b + Z.length = d0.size → L.Pairwise T → U.Pairwise T → CmpOf T (ltOf cf) L U →
      SW (eI v) w0 blk off (P ++ (L ++ (U ++ Z))).toArray w →
    Calls Try.prog 76 #[.slice (some ⟨blk, off, none⟩) d0.size cap, .int .i64 a, .int .i64 m, .int .i64 b, .func (.func g) #[] cb] w fun e w' => e = .returned (.tuple #[]) ∧ ∃ M, M.Perm (L ++ U) ∧ M.Pairwise T ∧ SW (eI v) w0 blk off (P ++ (M ++ Z)).toArray w' := by
  intro N
  induction N with
  | zero => intro P L U Z w a m b hN hL; omega
  | succ N ih =>
    intro P L U Z w a m b hN hL hU ha hm hb hs sL sU hc S
    by_cases h1 : L.length = 1
    · obtain ⟨x, rfl⟩ := List.length_eq_one_iff.1 h1
      exact symMerge_one tr v cf g cb blk off cap d0 w0 w R eg hcmp hsz P U Z x a m b ha (by simpa using hm) hb hs sU hc S
    by_cases h2 : U.length = 1
    · obtain ⟨y, rfl⟩ := List.length_eq_one_iff.1 h2
      exact symMerge_last tr v cf g cb blk off cap d0 w0 w R eg hcmp hsz P L Z y a m b (by omega) ha hm (by simpa using hb) hs sL hc S
    have IH := hide ih
    clear ih
    have SPL : Hid (∀ s n, n = (a + b) / 2 + m → a ≤ s → s ≤ m → m + s ≤ n → n ≤ b + s → (s = a ∨ n = b + s ∨ ltOf cf ((P ++ (L ++ (U ++ Z))).getD (n - s) default) ((P ++ (L ++ (U ++ Z))).getD (s - 1) default) = false) →
        (s = m ∨ n = m + s ∨ ltOf cf ((P ++ (L ++ (U ++ Z))).getD (n - 1 - s) default) ((P ++ (L ++ (U ++ Z))).getD s default) = true) →
        ∃ L1 L2 R1 R2, L = L1 ++ L2 ∧ U = R1 ++ R2 ∧ L1.length = s - a ∧ R1.length = n - s - m ∧ ∀ x ∈ L1 ++ R1, ∀ y ∈ L2 ++ R2, T x y) := by
      intro s n hn q1 q2 q3 q4 q5 q6
      have := sm_split (P := P) (S := Z) (s := s) (n := n) tr sL sU hc (by rw [hn, ha, hm, hb]) (by omega) (by omega) (by omega) (by omega) (by rw [ha, hm, hb]; exact q5) (by rw [ha, hm]; exact q6)
      rw [ha, hm] at this
      exact this
    have LEN : Hid ((P ++ (L ++ (U ++ Z))).toArray.size = d0.size) := by show _ = _; rw [List.size_toArray]; simp only [List.length_append]; omega
    have GET : Hid (∀ q, (P ++ (L ++ (U ++ Z))).toArray[q]! = (P ++ (L ++ (U ++ Z))).getD q default) := fun q => la_get _ _
    obtain ⟨D, hD⟩ : ∃ D, Hid (P ++ (L ++ (U ++ Z)) = D) := ⟨_, rfl⟩
    rw [hD.out] at S SPL LEN GET
    obtain ⟨l, hl⟩ : ∃ l, Hid (L.length = l) := ⟨_, rfl⟩
    obtain ⟨u, hu⟩ : ∃ u, Hid (U.length = u) := ⟨_, rfl⟩
    rw [hl.out] at hm hN hL h1
    rw [hu.out] at hb hN hU h2
    have HC : Hid _ := hcmp
    have RR := hide R
    have S0 := hide S
    have HA := hide ha
    have HS := hide hs
    have HCO := hide hc
    have TR := hide tr
    have SL' := hide sL
    have SU' := hide sU
    clear hcmp R S hc tr sU sL ha
    have wma : IntKind.i64.wrap ((m : Int) - (a : Int)) = (l : Int) := by rw [IntWalk.i64_in _ (by omega)]; omega
    have wl : ¬ (l : Int) = 1 := by omega
    have wl2 : ((l : Int) == 1) = false := by simp; omega
    have wbm : IntKind.i64.wrap ((b : Int) - (m : Int)) = (u : Int) := by rw [IntWalk.i64_in _ (by omega)]; omega
    have wu : ¬ (u : Int) = 1 := by omega
    have wu2 : ((u : Int) == 1) = false := by simp; omega
    obtain ⟨mid, hmid⟩ : ∃ mid, Hid ((a + b) / 2 = mid) := ⟨_, rfl⟩
    have emid : ((a : Int) + (b : Int)) / 2 = (mid : Int) := by have := hmid.out; omega
    obtain ⟨n, hn⟩ : ∃ n, Hid (mid + m = n) := ⟨_, rfl⟩
    have en : IntKind.i64.wrap ((mid : Int) + (m : Int)) = (n : Int) := by have := hn.out; have := hmid.out; rw [IntWalk.i64_in _ (by omega)]; omega
    have en1 : IntKind.i64.wrap ((n : Int) - 1) = ((n - 1 : Nat) : Int) := by have := hn.out; have := hmid.out; rw [IntWalk.i64_in _ (by omega)]; omega
    have mixed : Try.prog.follows .mixedOrders = true := by kernel_rfl
    have b1 : a < mid := by have := hmid.out; omega
    have b2 : mid < b := by have := hmid.out; omega
    have ab : a < m := by omega
    have mb : m < b := by omega
    have bd : b ≤ d0.size := by omega
    go_enter Try.func76, Try.ntmps76
    go_upto_if 140 with fail
    go_cut [20, 21] (fun s20 s21 wx => ∃ s r : Nat, s20 = .int .i64 s ∧ s21 = .int .i64 r ∧ wx = w ∧ a ≤ s ∧ s ≤ r ∧ r ≤ m ∧ Hid (m + r ≤ n ∧ n ≤ b + s ∧ (s = a ∨ n = b + s) ∧ (r = m ∨ n = m + r)))
    case first =>
      as_aux_lemma =>
        by_cases hmm : mid < m
        · have hmz : (mid : Int) < (m : Int) := by omega
          have wnb : IntKind.i64.wrap ((n : Int) - (b : Int)) = ((n - b : Nat) : Int) := by have := hn.out; have := hmid.out; rw [IntWalk.i64_in _ (by omega)]; omega
          go_wp2
          go_meet
          exact ⟨n - b, mid, rfl, rfl, rfl, by have := hn.out; have := hmid.out; omega, by have := hn.out; have := hmid.out; omega, by omega, by have := hn.out; have := hmid.out; omega, by have := hn.out; have := hmid.out; omega, by have := hn.out; have := hmid.out; omega, by have := hn.out; have := hmid.out; omega⟩
        · have hmz : ¬ (mid : Int) < (m : Int) := by omega
          go_wp2
          go_meet
          exact ⟨a, m, rfl, rfl, rfl, Nat.le_refl _, by omega, Nat.le_refl _, by have := hn.out; have := hmid.out; omega, by have := hn.out; have := hmid.out; omega, by omega, by omega⟩
    case rest =>
      as_aux_lemma =>
        obtain ⟨s0, r0, rfl, rfl, rfl, has, hsr, hrm, HH⟩ := hcut
        go_wp2_with fail
        go_loopw [20, 21] (fun s20 s21 wr => ∃ s r : Nat, s20 = .int .i64 s ∧ s21 = .int .i64 r ∧ a ≤ s ∧ s ≤ r ∧ r ≤ m ∧ Hid (m + r ≤ n ∧ n ≤ b + s) ∧ Hid (s = a ∨ n = b + s ∨ ltOf cf (D.getD (n - s) default) (D.getD (s - 1) default) = false) ∧ Hid (r = m ∨ n = m + r ∨ ltOf cf (D.getD (n - 1 - r) default) (D.getD r default) = true) ∧ Hid (SW (eI v) w0 blk off D.toArray wr)) (fun s20 s21 _ => (intOf s21).toNat - (intOf s20).toNat)
        case atStart =>
          obtain ⟨g1, g2, g3, g4⟩ := HH.out
          exact ⟨s0, r0, rfl, rfl, has, hsr, hrm, ⟨g1, g2⟩, by rcases g3 with h | h; exact .inl h; exact .inr (.inl h), by rcases g4 with h | h; exact .inl h; exact .inr (.inl h), S0⟩
        case round =>
          clear has hsr hrm HH
          obtain ⟨s, r, rfl, rfl, has, hsr, hrm, HB, LO, HI, S1⟩ := hrel
          by_cases hlt : s < r
          · as_aux_lemma =>
              have hltz : (s : Int) < (r : Int) := by omega
              obtain ⟨h, hh⟩ : ∃ h, Hid ((s + r) / 2 = h) := ⟨_, rfl⟩
              have k1 : s ≤ h := by have := hh.out; omega
              have k2 : h < r := by have := hh.out; omega
              have eh : ((s : Int) + (r : Int)) / 2 = (h : Int) := by have := hh.out; omega
              obtain ⟨q, hq⟩ : ∃ q, Hid (n - 1 - h = q) := ⟨_, rfl⟩
              have qb : q < b := by have := hq.out; have := HB.out; omega
              have eq : IntKind.i64.wrap (((n - 1 : Nat) : Int) - (h : Int)) = (q : Int) := by have := hq.out; have := HB.out; rw [IntWalk.i64_in _ (by omega)]; omega
              have c1 := sw_atl S1.out RR.out LEN.out (i := q) rfl (by rw [LEN.out]; omega)
              have c2 := sw_atl S1.out RR.out LEN.out (i := h) rfl (by rw [LEN.out]; omega)
              rw [GET.out] at c1 c2
              have CQ := S1.out.cmp HC.out LEN.out (D.getD q default) (D.getD h default)
              obtain ⟨c, hcv⟩ : ∃ c, Hid (cf (D.getD q default) (D.getD h default) = c) := ⟨_, rfl⟩
              rw [hcv.out] at CQ
              have LT : Hid (ltOf cf (D.getD q default) (D.getD h default) = decide (c < 0)) := by show _ = _; unfold ltOf; rw [hcv.out]
              have i1 : (h : Int) < (d0.size : Int) := by omega
              have i2 : (q : Int) < (d0.size : Int) := by omega
              have NJ : Hid (¬ c < 0 → (h + 1 = a ∨ n = b + (h + 1) ∨ ltOf cf (D.getD (n - (h + 1)) default) (D.getD (h + 1 - 1) default) = false)) := fun hn => .inr (.inr (by rw [show n - (h + 1) = q by have := hq.out; omega, show h + 1 - 1 = h by omega, LT.out, decide_eq_false hn]))
              have NI : Hid (c < 0 → (h = m ∨ n = m + h ∨ ltOf cf (D.getD (n - 1 - h) default) (D.getD h default) = true)) := fun hn => .inr (.inr (by rw [hq.out, LT.out, decide_eq_true hn]))
              clear hcv LT
              generalize D.getD q default = x at CQ c1
              generalize D.getD h default = y at CQ c2
              by_cases hn' : c < 0
              · have hd : decide (c < 0) = true := decide_eq_true hn'
                go_wp2_with fail
                go_quiet_grown (first | (go_at_fn g; refine Calls.grown_of (CQ _ _)))
                have S2 : Hid (SW (eI v) w0 blk off D.toArray (grow (wr.drewN nq) osq)) := S1.out.grown nq osq
                clear c1 c2 CQ S1
                generalize grow (wr.drewN nq) osq = w2 at *
                go_wp2
                go_roundw
                case rel => exact ⟨s, h, rfl, rfl, has, k1, by omega, ⟨by have := HB.out; omega, HB.out.2⟩, LO, NI.out hn', S2⟩
                case measure => simp [intOf]; omega
              · have hd : decide (c < 0) = false := decide_eq_false hn'
                go_wp2_with fail
                go_quiet_grown (first | (go_at_fn g; refine Calls.grown_of (CQ _ _)))
                have S2 : Hid (SW (eI v) w0 blk off D.toArray (grow (wr.drewN nq) osq)) := S1.out.grown nq osq
                clear c1 c2 CQ S1
                generalize grow (wr.drewN nq) osq = w2 at *
                go_wp2
                go_roundw
                case rel => exact ⟨h + 1, r, by go_num, rfl, by omega, by omega, hrm, ⟨HB.out.1, by have := HB.out; omega⟩, NJ.out hn', HI, S2⟩
                case measure => simp [intOf]; omega
          · have e : s = r := by omega
            subst e
            obtain ⟨L1, L2, R1, R2, eL, eR, l1, l2, hx⟩ := SPL.out s n (by rw [hmid.out, hn.out]) has hrm HB.out.1 HB.out.2 LO.out HI.out
            obtain ⟨f, hf⟩ : ∃ f, Hid (n - s = f) := ⟨_, rfl⟩
            have ef : IntKind.i64.wrap ((n : Int) - (s : Int)) = (f : Int) := by have := hf.out; have := HB.out; rw [IntWalk.i64_in _ (by omega)]; omega
            have fm : m ≤ f := by have := hf.out; have := HB.out; omega
            have fb : f ≤ b := by have := hf.out; have := HB.out; omega
            have L1l : Hid (L1.length = s - a) := l1
            have R1l : Hid (R1.length = f - m) := by show _ = _; rw [l2]; have := hf.out; omega
            have L2l : Hid (L2.length = m - s) := by show _ = _; have := congrArg List.length eL; rw [List.length_append, hl.out, l1] at this; omega
            have R2l : Hid (R2.length = b - f) := by show _ = _; have := congrArg List.length eR; rw [List.length_append, hu.out, l2] at this; have := hf.out; omega
            have fs : Hid (f + s = mid + m) := by show _ = _; have := hf.out; have := hn.out; have := HB.out; omega
            subst eL
            subst eR
            have SL2 := List.pairwise_append.1 SL'.out
            have SR2 := List.pairwise_append.1 SU'.out
            have HX := hide hx
            clear hx l1 l2
            have S2 : Hid (SW (eI v) w0 blk off (P ++ (L1 ++ (L2 ++ (R1 ++ (R2 ++ Z))))).toArray wr) := by
              show SW _ _ _ _ _ _
              have := S1.out
              rw [← hD.out] at this
              simpa using this
            obtain ⟨Q1, hQ1⟩ : ∃ Q1 : World → Prop, Hid (∀ wx, Q1 wx ↔ SW (eI v) w0 blk off (P ++ (L1 ++ (R1 ++ (L2 ++ (R2 ++ Z))))).toArray wx) := ⟨_, fun _ => Iff.rfl⟩
            obtain ⟨Q2, hQ2⟩ : ∃ Q2 : World → Prop, Hid (∀ wx, Q2 wx ↔ ∃ M1 : List α, M1.Perm (L1 ++ R1) ∧ M1.Pairwise T ∧ SW (eI v) w0 blk off (P ++ (M1 ++ (L2 ++ (R2 ++ Z)))).toArray wx) := ⟨_, fun _ => Iff.rfl⟩
            obtain ⟨B1, hB1⟩ : ∃ B1, Hid ((decide (s < m) && decide (m < f)) = B1) := ⟨_, rfl⟩
            obtain ⟨B2, hB2⟩ : ∃ B2, Hid ((decide (a < s) && decide (s < mid)) = B2) := ⟨_, rfl⟩
            obtain ⟨B3, hB3⟩ : ∃ B3, Hid ((decide (mid < f) && decide (f < b)) = B3) := ⟨_, rfl⟩
            go_upto_region 39 with fail
            go_cut [185] (fun sb wx => sb = .bool (decide (s < m) && decide (m < f)) ∧ wx = wr)
            case first =>
              as_aux_lemma =>
                by_cases c1 : s < m
                · have c1z : (s : Int) < (m : Int) := by omega
                  by_cases c2 : m < f
                  · have c2z : (m : Int) < (f : Int) := by omega
                    go_wp2
                    go_meet
                    exact ⟨by simp [c1, c2], rfl⟩
                  · have c2z : ¬ (m : Int) < (f : Int) := by omega
                    go_wp2
                    go_meet
                    exact ⟨by simp [c1, c2], rfl⟩
                · have c1z : ¬ (s : Int) < (m : Int) := by omega
                  go_wp2
                  go_meet
                  exact ⟨by simp [c1], rfl⟩
            case rest =>
              as_aux_lemma =>
                obtain ⟨rfl, hw⟩ := hcut
                rw [hw]
                clear hw
                rw [hB1.out]
                go_upto_if 185 with fail
                go_cut [] (fun wx => Q1 wx)
                case first =>
                  as_aux_lemma =>
                    cases B1 with
                    | true =>
                      have hb := hB1.out
                      simp only [Bool.and_eq_true, decide_eq_true_eq] at hb
                      have CC := hide (rotate_m v (.func (.func g) #[] cb) blk off cap d0 w0 wr RR.out (P ++ L1) L2 R1 (R2 ++ Z) s m f (by rw [List.length_append, L1l.out, HA.out]; omega) (by rw [L2l.out]; omega) (by rw [R1l.out]; omega) (by rw [List.length_append, R2l.out, ← HS.out]; omega) (by rw [L2l.out]; omega) (by rw [R1l.out]; omega) (by simpa using S2.out) hsz)
                      clear hb
                      go_wp2_with (go_at_call 96; refine CC.out.mono ?_; rintro e w' ⟨rfl, S3⟩)
                      go_meet
                      exact (hQ1.out _).2 (by simpa using S3)
                    | false =>
                      have SE : Hid (Q1 wr) := (hQ1.out _).2 (by
                        have hb := hB1.out
                        simp only [Bool.and_eq_false_iff, decide_eq_false_iff_not] at hb
                        rcases hb with hb | hb
                        · have e : L2 = [] := List.eq_nil_of_length_eq_zero (by rw [L2l.out]; omega)
                          rw [e] at S2 ⊢
                          exact S2.out
                        · have e : R1 = [] := List.eq_nil_of_length_eq_zero (by rw [R1l.out]; omega)
                          rw [e] at S2 ⊢
                          exact S2.out)
                      go_wp2
                      go_meet
                      exact SE.out
                case rest =>
                  as_aux_lemma =>
                    have S3 := hide ((hQ1.out _).1 hcut)
                    clear hcut S1 S2
                    rename World => wa
                    go_upto_region 41 with fail
                    go_cut [199] (fun sb wx => sb = .bool (decide (a < s) && decide (s < mid)) ∧ wx = wa)
                    case first =>
                      as_aux_lemma =>
                        by_cases c1 : a < s
                        · have c1z : (a : Int) < (s : Int) := by omega
                          by_cases c2 : s < mid
                          · have c2z : (s : Int) < (mid : Int) := by omega
                            go_wp2
                            go_meet
                            exact ⟨by simp [c1, c2], rfl⟩
                          · have c2z : ¬ (s : Int) < (mid : Int) := by omega
                            go_wp2
                            go_meet
                            exact ⟨by simp [c1, c2], rfl⟩
                        · have c1z : ¬ (a : Int) < (s : Int) := by omega
                          go_wp2
                          go_meet
                          exact ⟨by simp [c1], rfl⟩
                    case rest =>
                      as_aux_lemma =>
                        obtain ⟨rfl, hw⟩ := hcut
                        rw [hw]
                        clear hw
                        rw [hB2.out]
                        go_upto_if 199 with fail
                        go_cut [] (fun wx => Q2 wx)
                        case first =>
                          as_aux_lemma =>
                            cases B2 with
                            | true =>
                              have hb := hB2.out
                              simp only [Bool.and_eq_true, decide_eq_true_eq] at hb
                              have CC := hide (IH.out P L1 R1 (L2 ++ (R2 ++ Z)) _ a s mid (by rw [L1l.out, R1l.out]; have := fs.out; omega) (by rw [L1l.out]; omega) (by rw [R1l.out]; have := fs.out; omega) HA.out (by rw [L1l.out]; omega) (by rw [R1l.out]; have := fs.out; omega) (by rw [List.length_append, List.length_append, L2l.out, R2l.out, ← HS.out]; have := fs.out; omega) SL2.1 SR2.1 (HCO.out.sub (fun x hx => by simp [hx]) (fun x hx => by simp [hx])) S3.out)
                              clear hb
                              go_wp2_with (go_at_call 76; refine CC.out.mono ?_; rintro e w' ⟨rfl, M, h1, h2, S4⟩)
                              go_meet
                              exact (hQ2.out _).2 ⟨M, h1, h2, S4⟩
                            | false =>
                              have SE : Hid (Q2 wa) := (hQ2.out _).2 (by
                                have hb := hB2.out
                                simp only [Bool.and_eq_false_iff, decide_eq_false_iff_not] at hb
                                rcases hb with hb | hb
                                · have e : L1 = [] := List.eq_nil_of_length_eq_zero (by rw [L1l.out]; omega)
                                  rw [e] at S3 ⊢
                                  exact ⟨R1, by simp, SR2.1, S3.out⟩
                                · have e : R1 = [] := List.eq_nil_of_length_eq_zero (by rw [R1l.out]; have := fs.out; omega)
                                  rw [e] at S3 ⊢
                                  exact ⟨L1, by simp, SL2.1, S3.out⟩)
                              go_wp2
                              go_meet
                              exact SE.out
                        case rest =>
                          as_aux_lemma =>
                            obtain ⟨M1, p1, t1, S4'⟩ := (hQ2.out _).1 hcut
                            clear hcut
                            rename World => wb
                            have S4 := hide S4'
                            have ML : Hid (M1.length = mid - a) := by show _ = _; rw [p1.length_eq, List.length_append, L1l.out, R1l.out]; have := fs.out; omega
                            have FIN : Hid (∀ M2 wx, M2.Perm (L2 ++ R2) → M2.Pairwise T → SW (eI v) w0 blk off (P ++ (M1 ++ (M2 ++ Z))).toArray wx → ∃ M, M.Perm ((L1 ++ L2) ++ (R1 ++ R2)) ∧ M.Pairwise T ∧ SW (eI v) w0 blk off (P ++ (M ++ Z)).toArray wx) := fun M2 wx p2 t2 hw => by
                              obtain ⟨q1, q2⟩ := sm_join p1 t1 p2 t2 HX.out
                              exact ⟨M1 ++ M2, q2, q1, by simpa using hw⟩
                            clear S4' S3
                            go_upto_region 43 with fail
                            go_cut [213] (fun sb wx => sb = .bool (decide (mid < f) && decide (f < b)) ∧ wx = wb)
                            case first =>
                              as_aux_lemma =>
                                by_cases c1 : mid < f
                                · have c1z : (mid : Int) < (f : Int) := by omega
                                  by_cases c2 : f < b
                                  · have c2z : (f : Int) < (b : Int) := by omega
                                    go_wp2
                                    go_meet
                                    exact ⟨by simp [c1, c2], rfl⟩
                                  · have c2z : ¬ (f : Int) < (b : Int) := by omega
                                    go_wp2
                                    go_meet
                                    exact ⟨by simp [c1, c2], rfl⟩
                                · have c1z : ¬ (mid : Int) < (f : Int) := by omega
                                  go_wp2
                                  go_meet
                                  exact ⟨by simp [c1], rfl⟩
                            case rest =>
                              as_aux_lemma =>
                                obtain ⟨rfl, hw⟩ := hcut
                                rw [hw]
                                clear hw
                                rw [hB3.out]
                                cases B3 with
                                | true =>
                                  have hb := hB3.out
                                  simp only [Bool.and_eq_true, decide_eq_true_eq] at hb
                                  have CC := hide (IH.out (P ++ M1) L2 R2 Z _ mid f b (by rw [L2l.out, R2l.out]; have := fs.out; omega) (by rw [L2l.out]; have := fs.out; omega) (by rw [R2l.out]; omega) (by rw [List.length_append, ML.out, HA.out]; omega) (by rw [L2l.out]; have := fs.out; omega) (by rw [R2l.out]; omega) HS.out SL2.2.1 SR2.2.1 (HCO.out.sub (fun x hx => by simp [hx]) (fun x hx => by simp [hx])) (by simpa using S4.out))
                                  clear hb
                                  go_wp2_with (go_at_call 76; refine CC.out.mono ?_; rintro e w' ⟨rfl, M, h1, h2, S5⟩)
                                  go_end0
                                  exact ⟨rfl, FIN.out M _ h1 h2 (by simpa using S5)⟩
                                | false =>
                                  have SE : Hid (∃ M, M.Perm ((L1 ++ L2) ++ (R1 ++ R2)) ∧ M.Pairwise T ∧ SW (eI v) w0 blk off (P ++ (M ++ Z)).toArray wb) := by
                                    have hb := hB3.out
                                    simp only [Bool.and_eq_false_iff, decide_eq_false_iff_not] at hb
                                    rcases hb with hb | hb
                                    · have e : L2 = [] := List.eq_nil_of_length_eq_zero (by rw [L2l.out]; have := fs.out; omega)
                                      rw [e] at S4
                                      exact FIN.out R2 _ (by rw [e]; simp) SR2.2.1 (by simpa using S4.out)
                                    · have e : R2 = [] := List.eq_nil_of_length_eq_zero (by rw [R2l.out]; omega)
                                      rw [e] at S4
                                      exact FIN.out L2 _ (by rw [e]; simp) SL2.2.1 (by simpa using S4.out)
                                  go_wp2
                                  go_end0
                                  exact ⟨rfl, SE.out⟩
end Go.Proofs.Ytcnpbaldnhfebaa
