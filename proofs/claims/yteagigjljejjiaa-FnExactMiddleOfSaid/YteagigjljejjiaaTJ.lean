import Derived.Test.YteagigjljejjiaaTI
namespace Go.Proofs.Yteagigjljejjiaa
open Go.RowKit
set_option linter.unusedVariables false

theorem results_five {fn : Func} {t u v x y : Tmp} (h : fn.results = #[.tmp t, .tmp u, .tmp v, .tmp x, .tmp y]) (tmps : Array Value) (P : Program) (w : World) :
    (results fn tmps).run P w = .ok (.tuple #[tmps.getD t undef, tmps.getD u undef, tmps.getD v undef, tmps.getD x undef, tmps.getD y undef]) w := by simp [results, h]

theorem run_max_int4 {P : Program} {w : World} (ts : Array TypeId) (t : TypeId) (k k' k'' k''' : IntKind) (x y z u : Int) : (Builtin.max_ ts t #[.int k x, .int k' y, .int k'' z, .int k''' u]).run P w = .ok (.int k (max (max (max x y) z) u)) w := by
  have h : ∀ a b : Int, (if a < b then b else a) = max a b := fun a b => by split <;> omega
  simp [Builtin.max_, Builtin.max2, h]

def askedF (zs : List Int) (k lo hi : Int) : Bool := hasMark zs k && decide (-1000 ≤ lo) && decide (lo ≤ hi) && decide (hi ≤ 1000)
theorem askedF_ok {zs : List Int} {k lo hi : Int} (h : askedF zs k lo hi = true) : hasMark zs k = true ∧ -1000 ≤ lo ∧ lo ≤ hi ∧ hi ≤ 1000 := by
  simp only [askedF, Bool.and_eq_true, decide_eq_true_eq] at h
  exact ⟨h.1.1.1, h.1.1.2, h.1.2, h.2⟩
theorem good_set {zs : List Int} {k : Nat} {m : Int} (h : goodMarks zs = true) (h1 : -1000 ≤ m) (h2 : m ≤ 1000) : goodMarks (zs.set k m) = true := by
  simp only [goodMarks, inB, Bool.and_eq_true, decide_eq_true_eq, List.length_set, List.all_eq_true] at h ⊢
  refine ⟨h.1, fun z hz => ?_⟩
  rcases List.mem_or_eq_of_mem_set hz with hz | rfl
  · exact h.2 z hz
  · exact ⟨h1, h2⟩

theorem i.isMarkRange_any (A : Option Addr) (n c B : Nat) (zs : List Int) (k lo hi : Int) (w : World) (h : SlI w B A n zs) (hn : n ≤ 1048576) :
    Calls Try.prog 63 #[.slice A n c, .int .i64 k, .int .i64 lo, .int .i64 hi] w fun e w' => e = .returned (.bool (askedF zs k lo hi)) ∧ w = w' := by
  have HF : Hid (askedF zs k lo hi = (hasMark zs k && decide (-1000 ≤ lo) && decide (lo ≤ hi) && decide (hi ≤ 1000))) := rfl
  generalize askedF zs k lo hi = r at *
  cases h1 : hasMark zs k <;> cases h2 : decide (-1000 ≤ lo) <;> cases h3 : decide (lo ≤ hi) <;> cases h4 : decide (hi ≤ 1000)
  all_goals
    have HR := hide HF.out
    rw [h1, h2, h3, h4] at HR
    clear HF
    go_enter Try.func63, Try.ntmps63
    go_wp2_with (go_at_call 46; refine (i.isMarkOf_any _ _ _ _ zs _ _ h hn).mono ?_; rintro e w1 ⟨rfl, rfl⟩)
    go_ret
    exact ⟨ret_bool (by rw [HR.out]; rfl), rfl⟩
theorem asked_eq (zs : List Int) (k lo hi : Int) : (hasMark zs k && inB (-1000) hi lo && inB lo 1000 hi) = askedF zs k lo hi := by
  unfold askedF inB
  cases hasMark zs k
  · rfl
  · by_cases h1 : -1000 ≤ lo <;> by_cases h2 : lo ≤ hi <;> by_cases h3 : hi ≤ 1000 <;> simp [h1, h2, h3]
theorem s.tmAsked_any (A : Option Addr) (n c B : Nat) (zs : List Int) (k lo hi : Int) (w : World) (h : SlI w B A n zs) (hn : n ≤ 1048576) :
    Calls Try.prog 62 #[.slice A n c, .int .i64 k, .int .i64 lo, .int .i64 hi] w fun e w' => e = .returned (.bool (askedF zs k lo hi)) ∧ w = w' := by
  have HF := hide (asked_eq zs k lo hi)
  generalize askedF zs k lo hi = r at *
  cases h1 : hasMark zs k <;> cases h2 : inB (-1000) hi lo <;> cases h3 : inB lo 1000 hi
  all_goals
    have HR := hide HF.out
    rw [h1, h2, h3] at HR
    clear HF
    go_enter Try.func62, Try.ntmps62
    go_wp2_with (first | (go_at_call 43; refine (s.tmHas_any _ _ _ _ zs _ _ h hn).mono ?_; rintro e w1 ⟨rfl, rfl⟩) | (go_at_call 44; refine (s.l1In_any _ _ _ _).mono ?_; rintro e w1 ⟨rfl, rfl⟩))
    go_ret
    exact ⟨ret_bool (by rw [← HR.out]; rfl), rfl⟩

def lowT (zs : List Int) : Int × Int := lowF (trimF zs).1 (trimF zs).2
def meanRangeF (zs : List Int) (k lo hi : Int) : Int × Int × Int × Int × Bool :=
  if askedF zs k lo hi then ((lowT (zs.set k.toNat lo)).1, (lowT (zs.set k.toNat lo)).2, (lowT (zs.set k.toNat hi)).1, (lowT (zs.set k.toNat hi)).2, true) else (0, 0, 0, 0, false)
def mostMovedF (zs : List Int) (k lo hi : Int) : Int × Int × Bool :=
  if askedF zs k lo hi then
    ((lowF (max (max ((trimF zs).1 - (trimF (zs.set k.toNat lo)).1) (-((trimF zs).1 - (trimF (zs.set k.toNat lo)).1))) (max ((trimF (zs.set k.toNat hi)).1 - (trimF zs).1) (-((trimF (zs.set k.toNat hi)).1 - (trimF zs).1)))) (trimF zs).2).1,
     (lowF (max (max ((trimF zs).1 - (trimF (zs.set k.toNat lo)).1) (-((trimF zs).1 - (trimF (zs.set k.toNat lo)).1))) (max ((trimF (zs.set k.toNat hi)).1 - (trimF zs).1) (-((trimF (zs.set k.toNat hi)).1 - (trimF zs).1)))) (trimF zs).2).2, true)
  else (0, 0, false)

/-- A mark set, trimmed: one call behind the other. -/
structure Moved (zs : List Int) (j : Nat) (m : Int) (T U : Int) : Prop where
  good : goodMarks (zs.set j m) = true
  eT : (trimF (zs.set j m)).1 = T
  eU : (trimF (zs.set j m)).2 = U
  b1 : -100000 ≤ T
  b2 : T ≤ 100000
  b3 : 1 ≤ U
  b4 : U ≤ 9
theorem moved (zs : List Int) (j : Nat) (m : Int) (h : goodMarks zs = true) (h1 : -1000 ≤ m) (h2 : m ≤ 1000) : ∃ T U, Moved zs j m T U := by
  have hg := good_set (k := j) h h1 h2
  obtain ⟨t1, t2, t3, t4⟩ := trim_bd hg
  exact ⟨_, _, hg, rfl, rfl, t1, t2, t3, t4⟩

set_option maxHeartbeats 2000000 in
theorem i.MeanRange_law (w : World) (v : Value) (z0 : List Int) (k lo hi : Int) (h : kI.rd w v z0) (hok : kI.ok z0) (_h1 : InR k) (_h2 : InR lo) (_h3 : InR hi) :
    Calls Try.prog 33 #[v, .int .i64 k, .int .i64 lo, .int .i64 hi] w fun e w' => e = .returned (.tuple #[.int .i64 (meanRangeF z0 k lo hi).1, .int .i64 (meanRangeF z0 k lo hi).2.1, .int .i64 (meanRangeF z0 k lo hi).2.2.1, .int .i64 (meanRangeF z0 k lo hi).2.2.2.1, .bool (meanRangeF z0 k lo hi).2.2.2.2]) ∧ Ext w w' := by
  obtain ⟨A, c, rfl, h, hnc, hcm⟩ := h
  have hn : z0.length ≤ 1048576 := hok
  cases h1 : askedF z0 k lo hi
  · have HF : Hid (meanRangeF z0 k lo hi = (0, 0, 0, 0, false)) := by show _ = _; simp [meanRangeF, h1]
    rw [HF.out]
    go_enter Try.func33, Try.ntmps33
    go_wp2_with (go_at_call 63; refine (i.isMarkRange_any _ _ _ _ z0 _ _ _ _ h hn).mono ?_; rintro e w1 ⟨rfl, rfl⟩)
    refine bodyPost_ret (results_five rfl _ _ _) rfl ?_
    exact ⟨rfl, Ext.refl _⟩
  · obtain ⟨hm, hl1, hl2, hl3⟩ := askedF_ok h1
    obtain ⟨hg, _, _, hk0, hk1⟩ := hasMark_ok hm
    obtain ⟨j, rfl⟩ := Int.eq_ofNat_of_zero_le hk0
    have hj : j < z0.length := by omega
    obtain ⟨T1, U1, m1⟩ := moved z0 j lo hg (by omega) (by omega)
    obtain ⟨T2, U2, m2⟩ := moved z0 j hi hg (by omega) (by omega)
    have HF : Hid (meanRangeF z0 (j : Int) lo hi = ((lowF T1 U1).1, (lowF T1 U1).2, (lowF T2 U2).1, (lowF T2 U2).2, true)) := by show _ = _; simp [meanRangeF, h1, lowT, m1.eT, m1.eU, m2.eT, m2.eU]
    rw [HF.out]
    have c1 := m1.b1; have c2 := m1.b2; have c3 := m1.b3; have c4 := m1.b4
    have d1 := m2.b1; have d2 := m2.b2; have d3 := m2.b3; have d4 := m2.b4
    clear hm hg
    go_enter Try.func33, Try.ntmps33
    go_wp2_with (go_at_call 63; refine (i.isMarkRange_any _ _ _ _ z0 _ _ _ _ h hn).mono ?_; rintro e w1 ⟨rfl, rfl⟩)
    clear h1
    refine (i.withMark_any _ _ _ _ j z0 lo _ h (Nat.le_refl _) hn hj).mono ?_
    rintro e w1 ⟨A1, e1, rfl, o1, x1⟩
    have O1 := hide o1; have X1 := hide x1; clear o1 x1
    go_wp2_with fail
    refine (i.trim_c _ _ _ _ (z0.set j lo) _ O1.out.sl (Nat.le_refl _) hn (good_ok m1.good).2.2.2).mono ?_
    rintro e w2 ⟨rfl, x2⟩
    rw [m1.eT, m1.eU]
    have X2 := hide (X1.out.trans x2); clear x2
    go_wp2_with fail
    refine (i.low_c _ _ _ (by omega) (by omega) (by omega) (by omega)).mono ?_
    rintro e w3 ⟨rfl, x3⟩
    have X3 := hide (X2.out.trans x3); clear x3
    go_wp2_with fail
    refine (i.withMark_any _ _ _ _ j z0 hi _ (h.ext X3.out (Nat.le_refl _)) X3.out.size hn hj).mono ?_
    rintro e w4 ⟨A4, e4, rfl, o4, x4⟩
    have O4 := hide o4; have X4 := hide (X3.out.trans x4); clear o4 x4
    go_wp2_with fail
    refine (i.trim_c _ _ _ _ (z0.set j hi) _ O4.out.sl (Nat.le_refl _) hn (good_ok m2.good).2.2.2).mono ?_
    rintro e w5 ⟨rfl, x5⟩
    rw [m2.eT, m2.eU]
    have X5 := hide (X4.out.trans x5); clear x5
    go_wp2_with fail
    refine (i.low_c _ _ _ (by omega) (by omega) (by omega) (by omega)).mono ?_
    rintro e w6 ⟨rfl, x6⟩
    have X6 := hide (X5.out.trans x6); clear x6
    go_wp2_with fail
    refine bodyPost_ret (results_five rfl _ _ _) rfl ?_
    exact ⟨rfl, X6.out⟩

set_option maxHeartbeats 2000000 in
theorem s.MeanRange_law (w : World) (v : Value) (z0 : List Int) (k lo hi : Int) (h : kI.rd w v z0) (hok : kI.ok z0) (_h1 : InR k) (_h2 : InR lo) (_h3 : InR hi) :
    Calls Try.prog 32 #[v, .int .i64 k, .int .i64 lo, .int .i64 hi] w fun e w' => e = .returned (.tuple #[.int .i64 (meanRangeF z0 k lo hi).1, .int .i64 (meanRangeF z0 k lo hi).2.1, .int .i64 (meanRangeF z0 k lo hi).2.2.1, .int .i64 (meanRangeF z0 k lo hi).2.2.2.1, .bool (meanRangeF z0 k lo hi).2.2.2.2]) ∧ Ext w w' := by
  obtain ⟨A, c, rfl, h, hnc, hcm⟩ := h
  have hn : z0.length ≤ 1048576 := hok
  cases h1 : askedF z0 k lo hi
  · have HF : Hid (meanRangeF z0 k lo hi = (0, 0, 0, 0, false)) := by show _ = _; simp [meanRangeF, h1]
    rw [HF.out]
    go_enter Try.func32, Try.ntmps32
    go_wp2_with (go_at_call 62; refine (s.tmAsked_any _ _ _ _ z0 _ _ _ _ h hn).mono ?_; rintro e w1 ⟨rfl, rfl⟩)
    refine bodyPost_ret (results_five rfl _ _ _) rfl ?_
    exact ⟨rfl, Ext.refl _⟩
  · obtain ⟨hm, hl1, hl2, hl3⟩ := askedF_ok h1
    obtain ⟨hg, _, _, hk0, hk1⟩ := hasMark_ok hm
    obtain ⟨j, rfl⟩ := Int.eq_ofNat_of_zero_le hk0
    have hj : j < z0.length := by omega
    obtain ⟨T1, U1, m1⟩ := moved z0 j lo hg (by omega) (by omega)
    obtain ⟨T2, U2, m2⟩ := moved z0 j hi hg (by omega) (by omega)
    have HF : Hid (meanRangeF z0 (j : Int) lo hi = ((lowF T1 U1).1, (lowF T1 U1).2, (lowF T2 U2).1, (lowF T2 U2).2, true)) := by show _ = _; simp [meanRangeF, h1, lowT, m1.eT, m1.eU, m2.eT, m2.eU]
    rw [HF.out]
    have c1 := m1.b1; have c2 := m1.b2; have c3 := m1.b3; have c4 := m1.b4
    have d1 := m2.b1; have d2 := m2.b2; have d3 := m2.b3; have d4 := m2.b4
    clear hm hg
    go_enter Try.func32, Try.ntmps32
    go_wp2_with (go_at_call 62; refine (s.tmAsked_any _ _ _ _ z0 _ _ _ _ h hn).mono ?_; rintro e w1 ⟨rfl, rfl⟩)
    clear h1
    refine (s.tmWith_any _ _ _ _ j z0 lo _ h (Nat.le_refl _) hn hj).mono ?_
    rintro e w1 ⟨A1, e1, rfl, o1, x1⟩
    have O1 := hide o1; have X1 := hide x1; clear o1 x1
    go_wp2_with fail
    refine (s.trim_c _ _ _ _ (z0.set j lo) _ O1.out.sl (Nat.le_refl _) hn (good_ok m1.good).2.2.2).mono ?_
    rintro e w2 ⟨rfl, x2⟩
    rw [m1.eT, m1.eU]
    have X2 := hide (X1.out.trans x2); clear x2
    go_wp2_with fail
    refine (s.low_c _ _ _ (by omega) (by omega) (by omega) (by omega)).mono ?_
    rintro e w3 ⟨rfl, x3⟩
    have X3 := hide (X2.out.trans x3); clear x3
    go_wp2_with fail
    refine (s.tmWith_any _ _ _ _ j z0 hi _ (h.ext X3.out (Nat.le_refl _)) X3.out.size hn hj).mono ?_
    rintro e w4 ⟨A4, e4, rfl, o4, x4⟩
    have O4 := hide o4; have X4 := hide (X3.out.trans x4); clear o4 x4
    go_wp2_with fail
    refine (s.trim_c _ _ _ _ (z0.set j hi) _ O4.out.sl (Nat.le_refl _) hn (good_ok m2.good).2.2.2).mono ?_
    rintro e w5 ⟨rfl, x5⟩
    rw [m2.eT, m2.eU]
    have X5 := hide (X4.out.trans x5); clear x5
    go_wp2_with fail
    refine (s.low_c _ _ _ (by omega) (by omega) (by omega) (by omega)).mono ?_
    rintro e w6 ⟨rfl, x6⟩
    have X6 := hide (X5.out.trans x6); clear x6
    go_wp2_with fail
    refine bodyPost_ret (results_five rfl _ _ _) rfl ?_
    exact ⟨rfl, X6.out⟩

set_option maxHeartbeats 2000000 in
theorem i.MostMoved_law (w : World) (v : Value) (z0 : List Int) (k lo hi : Int) (h : kI.rd w v z0) (hok : kI.ok z0) (_h1 : InR k) (_h2 : InR lo) (_h3 : InR hi) :
    Calls Try.prog 35 #[v, .int .i64 k, .int .i64 lo, .int .i64 hi] w fun e w' => e = .returned (.tuple #[.int .i64 (mostMovedF z0 k lo hi).1, .int .i64 (mostMovedF z0 k lo hi).2.1, .bool (mostMovedF z0 k lo hi).2.2]) ∧ Ext w w' := by
  obtain ⟨A, c, rfl, h, hnc, hcm⟩ := h
  have hn : z0.length ≤ 1048576 := hok
  cases h1 : askedF z0 k lo hi
  · have HF : Hid (mostMovedF z0 k lo hi = (0, 0, false)) := by show _ = _; simp [mostMovedF, h1]
    rw [HF.out]
    go_enter Try.func35, Try.ntmps35
    go_wp2_with (go_at_call 63; refine (i.isMarkRange_any _ _ _ _ z0 _ _ _ _ h hn).mono ?_; rintro e w1 ⟨rfl, rfl⟩)
    go_ret3
    exact ⟨rfl, Ext.refl _⟩
  · obtain ⟨hm, hl1, hl2, hl3⟩ := askedF_ok h1
    obtain ⟨hg, _, _, hk0, hk1⟩ := hasMark_ok hm
    obtain ⟨j, rfl⟩ := Int.eq_ofNat_of_zero_le hk0
    have hj : j < z0.length := by omega
    obtain ⟨T1, U1, m1⟩ := moved z0 j lo hg (by omega) (by omega)
    obtain ⟨T2, U2, m2⟩ := moved z0 j hi hg (by omega) (by omega)
    obtain ⟨b1, b2, b3, b4⟩ := trim_bd hg
    obtain ⟨T, hT⟩ : ∃ T, Hid ((trimF z0).1 = T) := ⟨_, rfl⟩
    obtain ⟨U, hU⟩ : ∃ U, Hid ((trimF z0).2 = U) := ⟨_, rfl⟩
    rw [hT.out] at b1 b2
    rw [hU.out] at b3 b4
    obtain ⟨D, hD⟩ : ∃ D, Hid (max (max (T - T1) (-(T - T1))) (max (T2 - T) (-(T2 - T))) = D) := ⟨_, rfl⟩
    have HF : Hid (mostMovedF z0 (j : Int) lo hi = ((lowF D U).1, (lowF D U).2, true)) := by
      show _ = _
      simp only [mostMovedF, h1, if_true, Int.toNat_natCast, m1.eT, m2.eT, hT.out, hU.out, hD.out]
    rw [HF.out]
    have c1 := m1.b1; have c2 := m1.b2
    have d1 := m2.b1; have d2 := m2.b2
    have hz := hide (good_ok hg).2.2.2
    clear hm hg
    go_enter Try.func35, Try.ntmps35
    go_wp2_with (go_at_call 63; refine (i.isMarkRange_any _ _ _ _ z0 _ _ _ _ h hn).mono ?_; rintro e w1 ⟨rfl, rfl⟩)
    clear h1
    refine (i.trim_c _ _ _ _ z0 _ h (Nat.le_refl _) hn hz.out).mono ?_
    rintro e w0 ⟨rfl, x0⟩
    rw [hT.out, hU.out]
    have X0 := hide x0; clear x0
    go_wp2_with fail
    refine (i.withMark_any _ _ _ _ j z0 lo _ (h.ext X0.out (Nat.le_refl _)) X0.out.size hn hj).mono ?_
    rintro e w1 ⟨A1, e1, rfl, o1, x1⟩
    have O1 := hide o1; have X1 := hide (X0.out.trans x1); clear o1 x1
    go_wp2_with fail
    refine (i.trim_c _ _ _ _ (z0.set j lo) _ O1.out.sl (Nat.le_refl _) hn (good_ok m1.good).2.2.2).mono ?_
    rintro e w2 ⟨rfl, x2⟩
    rw [m1.eT, m1.eU]
    have X2 := hide (X1.out.trans x2); clear x2
    go_wp2_with fail
    refine (i.withMark_any _ _ _ _ j z0 hi _ (h.ext X2.out (Nat.le_refl _)) X2.out.size hn hj).mono ?_
    rintro e w4 ⟨A4, e4, rfl, o4, x4⟩
    have O4 := hide o4; have X4 := hide (X2.out.trans x4); clear o4 x4
    go_wp2_with fail
    refine (i.trim_c _ _ _ _ (z0.set j hi) _ O4.out.sl (Nat.le_refl _) hn (good_ok m2.good).2.2.2).mono ?_
    rintro e w5 ⟨rfl, x5⟩
    rw [m2.eT, m2.eU]
    have X5 := hide (X4.out.trans x5); clear x5
    have hD2 : Hid (max (max (max (T - T1) (T1 - T)) (T2 - T)) (T - T2) = D) := by show _ = _; have := hD.out; omega
    have hD3 : -1000000 ≤ D ∧ D ≤ 1000000 := by have := hD.out; omega
    obtain ⟨hD3, hD4⟩ := hD3
    have hmx : ∀ (W : World) ts ty, (Builtin.max_ ts ty #[.int .i64 (T - T1), .int .i64 (T1 - T), .int .i64 (T2 - T), .int .i64 (T - T2)]).run Try.prog W = .ok (.int .i64 D) W := fun W ts ty => by rw [run_max_int4, hD2.out]
    go_wp2_with fail
    refine (i.low_c _ _ _ (by omega) (by omega) (by omega) (by omega)).mono ?_
    rintro e w6 ⟨rfl, x6⟩
    have X6 := hide (X5.out.trans x6); clear x6
    go_wp2
    go_ret3
    exact ⟨rfl, X6.out⟩

set_option maxHeartbeats 2000000 in
theorem s.MostMoved_law (w : World) (v : Value) (z0 : List Int) (k lo hi : Int) (h : kI.rd w v z0) (hok : kI.ok z0) (_h1 : InR k) (_h2 : InR lo) (_h3 : InR hi) :
    Calls Try.prog 34 #[v, .int .i64 k, .int .i64 lo, .int .i64 hi] w fun e w' => e = .returned (.tuple #[.int .i64 (mostMovedF z0 k lo hi).1, .int .i64 (mostMovedF z0 k lo hi).2.1, .bool (mostMovedF z0 k lo hi).2.2]) ∧ Ext w w' := by
  obtain ⟨A, c, rfl, h, hnc, hcm⟩ := h
  have hn : z0.length ≤ 1048576 := hok
  cases h1 : askedF z0 k lo hi
  · have HF : Hid (mostMovedF z0 k lo hi = (0, 0, false)) := by show _ = _; simp [mostMovedF, h1]
    rw [HF.out]
    go_enter Try.func34, Try.ntmps34
    go_wp2_with (go_at_call 62; refine (s.tmAsked_any _ _ _ _ z0 _ _ _ _ h hn).mono ?_; rintro e w1 ⟨rfl, rfl⟩)
    go_ret3
    exact ⟨rfl, Ext.refl _⟩
  · obtain ⟨hm, hl1, hl2, hl3⟩ := askedF_ok h1
    obtain ⟨hg, _, _, hk0, hk1⟩ := hasMark_ok hm
    obtain ⟨j, rfl⟩ := Int.eq_ofNat_of_zero_le hk0
    have hj : j < z0.length := by omega
    obtain ⟨T1, U1, m1⟩ := moved z0 j lo hg (by omega) (by omega)
    obtain ⟨T2, U2, m2⟩ := moved z0 j hi hg (by omega) (by omega)
    obtain ⟨b1, b2, b3, b4⟩ := trim_bd hg
    obtain ⟨T, hT⟩ : ∃ T, Hid ((trimF z0).1 = T) := ⟨_, rfl⟩
    obtain ⟨U, hU⟩ : ∃ U, Hid ((trimF z0).2 = U) := ⟨_, rfl⟩
    rw [hT.out] at b1 b2
    rw [hU.out] at b3 b4
    obtain ⟨D, hD⟩ : ∃ D, Hid (max (max (T - T1) (-(T - T1))) (max (T2 - T) (-(T2 - T))) = D) := ⟨_, rfl⟩
    have HF : Hid (mostMovedF z0 (j : Int) lo hi = ((lowF D U).1, (lowF D U).2, true)) := by
      show _ = _
      simp only [mostMovedF, h1, if_true, Int.toNat_natCast, m1.eT, m2.eT, hT.out, hU.out, hD.out]
    rw [HF.out]
    have c1 := m1.b1; have c2 := m1.b2
    have d1 := m2.b1; have d2 := m2.b2
    have hz := hide (good_ok hg).2.2.2
    clear hm hg
    go_enter Try.func34, Try.ntmps34
    go_wp2_with (go_at_call 62; refine (s.tmAsked_any _ _ _ _ z0 _ _ _ _ h hn).mono ?_; rintro e w1 ⟨rfl, rfl⟩)
    clear h1
    refine (s.trim_c _ _ _ _ z0 _ h (Nat.le_refl _) hn hz.out).mono ?_
    rintro e w0 ⟨rfl, x0⟩
    rw [hT.out, hU.out]
    have X0 := hide x0; clear x0
    go_wp2_with fail
    refine (s.tmWith_any _ _ _ _ j z0 lo _ (h.ext X0.out (Nat.le_refl _)) X0.out.size hn hj).mono ?_
    rintro e w1 ⟨A1, e1, rfl, o1, x1⟩
    have O1 := hide o1; have X1 := hide (X0.out.trans x1); clear o1 x1
    go_wp2_with fail
    refine (s.trim_c _ _ _ _ (z0.set j lo) _ O1.out.sl (Nat.le_refl _) hn (good_ok m1.good).2.2.2).mono ?_
    rintro e w2 ⟨rfl, x2⟩
    rw [m1.eT, m1.eU]
    have X2 := hide (X1.out.trans x2); clear x2
    go_wp2_with fail
    refine (s.tmWith_any _ _ _ _ j z0 hi _ (h.ext X2.out (Nat.le_refl _)) X2.out.size hn hj).mono ?_
    rintro e w4 ⟨A4, e4, rfl, o4, x4⟩
    have O4 := hide o4; have X4 := hide (X2.out.trans x4); clear o4 x4
    go_wp2_with fail
    refine (s.trim_c _ _ _ _ (z0.set j hi) _ O4.out.sl (Nat.le_refl _) hn (good_ok m2.good).2.2.2).mono ?_
    rintro e w5 ⟨rfl, x5⟩
    rw [m2.eT, m2.eU]
    have X5 := hide (X4.out.trans x5); clear x5
    go_wp2_with fail
    refine (s.l1Abs_any _ _ (by omega) (by omega)).mono ?_
    rintro e w6 ⟨rfl, rfl⟩
    go_wp2_with fail
    refine (s.l1Abs_any _ _ (by omega) (by omega)).mono ?_
    rintro e w6 ⟨rfl, rfl⟩
    go_wp2_with fail
    refine (s.l1Most_any _ _ _).mono ?_
    rintro e w6 ⟨rfl, rfl⟩
    rw [hD.out]
    have hD3 : -1000000 ≤ D ∧ D ≤ 1000000 := by have := hD.out; omega
    obtain ⟨hD3, hD4⟩ := hD3
    go_wp2_with fail
    refine (s.low_c _ _ _ (by omega) (by omega) (by omega) (by omega)).mono ?_
    rintro e w6 ⟨rfl, x6⟩
    have X6 := hide (X5.out.trans x6); clear x6
    go_wp2
    go_ret3
    exact ⟨rfl, X6.out⟩
end Go.Proofs.Yteagigjljejjiaa
