/- Plain laws on columns and least grades: a score lies between columns of its judges; what the least grade is. -/
import Derived.Test.YtaoeomgehpdedaaGreatHD
import Derived.Test.YtaoeomgehpdedaaGreatRU
import Derived.Test.YtaoeomgehpdedaaGreatRQ
import Derived.Test.YtaoeomgehpdedaaGreatGH
namespace Go.Proofs.YtaoeomgehpdedaaGreat
open Go.RowKit Go.Sort
set_option linter.unusedVariables false

theorem roundP_ge {s u c g : Int} (h : g * c ≤ s) (hu : 0 ≤ u) (hc : 1 ≤ c) : roundP g u 1 ≤ roundP s u c := by
  unfold roundP roundI
  have t1 : g * c * u ≤ s * u := Int.mul_le_mul_of_nonneg_right h hu
  have e0 : g * c * u = c * (g * u) := by rw [Int.mul_comm g c, Int.mul_assoc]
  have q1 := Int.ediv_mul_le (2 * (g * u) + 10 * 1) (show 2 * (10 * 1) ≠ (0 : Int) by omega)
  generalize (2 * (g * u) + 10 * 1) / (2 * (10 * 1)) = q at *
  refine (Int.le_ediv_iff_mul_le (by omega)).2 ?_
  have e1 : q * (2 * (10 * c)) = c * (q * (2 * (10 * 1))) := by rw [show 2 * (10 * c) = c * (2 * (10 * 1)) by omega, Int.mul_left_comm]
  have t2 : c * (q * (2 * (10 * 1))) ≤ c * (2 * (g * u) + 10 * 1) := Int.mul_le_mul_of_nonneg_left q1 (by omega)
  have e2 : c * (2 * (g * u) + 10 * 1) = 2 * (c * (g * u)) + 10 * c := by rw [Int.mul_add, Int.mul_left_comm]; omega
  rw [e1]
  rw [e2] at t2
  rw [e0] at t1
  omega
theorem roundP_le {s u c g : Int} (h : s ≤ g * c) (hu : 0 ≤ u) (hc : 1 ≤ c) : roundP s u c ≤ roundP g u 1 := by
  unfold roundP roundI
  have t1 : s * u ≤ g * c * u := Int.mul_le_mul_of_nonneg_right h hu
  have e0 : g * c * u = c * (g * u) := by rw [Int.mul_comm g c, Int.mul_assoc]
  have q2 := Int.lt_ediv_add_one_mul_self (2 * (g * u) + 10 * 1) (show (0 : Int) < 2 * (10 * 1) by omega)
  generalize (2 * (g * u) + 10 * 1) / (2 * (10 * 1)) = q at *
  refine Int.le_of_lt_add_one ((Int.ediv_lt_iff_lt_mul (by omega)).2 ?_)
  have e1 : (q + 1) * (2 * (10 * c)) = c * ((q + 1) * (2 * (10 * 1))) := by rw [show 2 * (10 * c) = c * (2 * (10 * 1)) by omega, Int.mul_left_comm]
  have t2 : c * (2 * (g * u) + 10 * 1) < c * ((q + 1) * (2 * (10 * 1))) := Int.mul_lt_mul_of_pos_left q2 (by omega)
  have e2 : c * (2 * (g * u) + 10 * 1) = 2 * (c * (g * u)) + 10 * c := by rw [Int.mul_add, Int.mul_left_comm]; omega
  rw [e1]
  rw [e2] at t2
  rw [e0] at t1
  omega
theorem trim_one (g : Int) : trimF [g] = (g, 1) := by simp [trimF]
/-- A score lies between the columns of two judges. -/
theorem score_cols {d : CoD} {xs : List ItD} {m : MD} (h : JOk d xs m) {k : Nat} (hk : k < xs.length) : ∃ j1 j2, j1 < judges m ∧ j2 < judges m ∧ colAt d xs m j1 k ≤ scoreF d xs m k ∧ scoreF d xs m k ≤ colAt d xs m j2 k := by
  obtain ⟨x, -, hx, hg⟩ := h.grades hk
  have hm := h.mr
  simp only [marksB, Bool.and_eq_true, List.all_eq_true] at hm
  have hl : k < m.1.length := by rw [h.ln]; exact hk
  have hx1 : gradesAt m k ∈ m.1 := by
    unfold gradesAt
    rw [List.getD_eq_getElem?_getD, List.getElem?_eq_getElem hl]
    exact List.getElem_mem _
  have hr := hm.1.2 _ hx1
  unfold okRow at hr
  simp only [Bool.and_eq_true, decide_eq_true_eq] at hr
  have hlen := hr.1
  have tb := trim_bd hg
  have hu := unitN_bd h.co (xs.getD k noItem) (xs.getD k noItem).1.length
  have hu0 : 0 ≤ unitF d (xs.getD k noItem) := hu.1
  unfold colAt scoreF
  rw [hx] at hlen ⊢
  have hne : x ≠ [] := by rintro rfl; simp [goodMarks, inB] at hg
  obtain ⟨x1, x2⟩ := maxL_spec x hne
  obtain ⟨n1, n2⟩ := minL_spec x hne
  have tr := trim_rng (zs := x) (lo := minL x) (hi := maxL x) (fun z hz => ⟨n2 z hz, x2 z hz⟩)
  obtain ⟨j1, h1, e1⟩ := List.getElem_of_mem n1
  obtain ⟨j2, h2, e2⟩ := List.getElem_of_mem x1
  have g1 : x.getD j1 0 = minL x := by rw [List.getD_eq_getElem?_getD, List.getElem?_eq_getElem h1]; exact e1
  have g2 : x.getD j2 0 = maxL x := by rw [List.getD_eq_getElem?_getD, List.getElem?_eq_getElem h2]; exact e2
  refine ⟨j1, j2, by omega, by omega, ?_, ?_⟩
  · rw [g1]
    refine Int.add_le_add_left ?_ _
    unfold pointF
    split
    · exact Int.le_refl _
    · rw [trim_one]; exact roundP_ge tr.1 hu0 tb.2.2.1
  · rw [g2]
    refine Int.add_le_add_left ?_ _
    unfold pointF
    split
    · exact Int.le_refl _
    · rw [trim_one]; exact roundP_le tr.2 hu0 tb.2.2.1
theorem colN_at (d : CoD) (xs : List ItD) (m : MD) (j : Nat) {k n : Nat} (h : k < n) : (colN d xs m j n).getD k 0 = colAt d xs m j k := by
  unfold colN
  rw [List.getD_eq_getElem?_getD, List.getElem?_eq_getElem (by simpa using h)]
  simp
/-! ### Columns -/
theorem columnF_yes {d : CoD} {xs : List ItD} {m : MD} {q : Int} (h : (columnF d xs m q).2 = true) : judgedB d xs m = true ∧ (columnF d xs m q).1.length = xs.length := by
  unfold columnF at *
  split at h
  · next hc =>
    rw [Bool.and_eq_true] at hc
    rw [if_pos (by rw [Bool.and_eq_true]; exact hc)]
    exact ⟨hc.1, colN_len d xs m _ _⟩
  · simp at h
theorem columnF_at {d : CoD} {xs : List ItD} {m : MD} (h : judgedB d xs m = true) {j : Nat} (hj : j < judges m) : columnF d xs m (j : Int) = (colN d xs m j xs.length, true) := by
  unfold columnF
  rw [h, if_pos]
  · rfl
  · simp [inB]; omega
theorem columnF_len (d : CoD) (xs : List ItD) (m : MD) (q : Int) : (columnF d xs m q).1.length ≤ xs.length := by
  unfold columnF
  split
  · exact Nat.le_of_eq (colN_len d xs m _ _)
  · exact Nat.zero_le _
theorem judges_yes {d : CoD} {xs : List ItD} {m : MD} (h : judgedB d xs m = true) : judgesOfF m = ((judges m : Int), true) ∧ judges m ≤ 9 := by
  have hm := (jOk h).mr
  refine ⟨by unfold judgesOfF; rw [if_pos hm], ?_⟩
  simp only [marksB, Bool.and_eq_true] at hm
  have := inB_rg hm.1.1.2
  omega
/-! ### The least grade -/
theorem leastFrom_spec (d : CoD) (xs : List ItD) (k : Nat) (pts : Int) : ∀ f g, (leastFrom d xs k pts f g).2 = true → g ≤ (leastFrom d xs k pts f g).1 ∧ (leastFrom d xs k pts f g).1 < g + f ∧ pts ≤ baseF d xs k + pointF d xs k [(leastFrom d xs k pts f g).1] := by
  intro f
  induction f with
  | zero => intro g h; simp [leastFrom] at h
  | succ f ih =>
    intro g h
    simp only [leastFrom] at h ⊢
    split at h
    · next hp =>
      rw [if_pos hp]
      rw [point3] at hp
      exact ⟨Int.le_refl _, by show g < g + ((f + 1 : Nat) : Int); omega, hp⟩
    · next hp =>
      rw [if_neg hp]
      have := ih (g + 1) h
      refine ⟨by omega, by omega, this.2.2⟩
theorem point_unit (d : CoD) (hd : CodeOk d) (xs : List ItD) (k : Nat) (g : Int) (h0 : -5 ≤ g) (h1 : g ≤ 5) : 2 * pointF d xs k [g] ≤ unitF d (xs.getD k noItem) + 1 ∧ (g ≤ 0 → pointF d xs k [g] ≤ 0) := by
  have hu := unitN_bd hd (xs.getD k noItem) (xs.getD k noItem).1.length
  have hu0 : 0 ≤ unitF d (xs.getD k noItem) := hu.1
  unfold pointF
  rw [trim_one]
  constructor
  · split
    · omega
    · exact (pts_bd (s := g) (c := 1) (by omega) (by omega) hu0 (by omega)).1
  · intro hg
    split
    · exact Int.le_refl _
    · show roundP g _ 1 ≤ 0
      unfold roundP roundI
      have : g * unitF d (xs.getD k noItem) ≤ 0 := Int.mul_nonpos_of_nonpos_of_nonneg hg hu0
      omega
/-- What is asked of a least grade. -/
theorem least_law {d : CoD} {xs : List ItD} {k pts : Int} (h : (leastF d xs k pts).2 = true) : ∃ q : Nat, k = q ∧ q < xs.length ∧ goodB d xs = true ∧ unitLaw d (xs.getD q noItem) = (unitF d (xs.getD q noItem), true) ∧
    0 ≤ unitF d (xs.getD q noItem) ∧ unitF d (xs.getD q noItem) ≤ 2000 ∧ 0 ≤ baseF d xs q ∧ baseF d xs q ≤ 100000 ∧ 0 ≤ pts ∧ pts ≤ 100000 ∧ -5 ≤ (leastF d xs k pts).1 ∧ (leastF d xs k pts).1 ≤ 5 ∧
    ((leastF d xs k pts).1 = 5 → 2 * (pts - baseF d xs q) ≤ unitF d (xs.getD q noItem) + 1) ∧ ((leastF d xs k pts).1 = -5 → pts ≤ baseF d xs q) := by
  unfold leastF at *
  split at h
  · next hj =>
    rw [if_pos hj]
    rw [Bool.and_eq_true] at hj
    obtain ⟨hk, hp⟩ := hj
    have pb := inB_rg hp
    obtain ⟨hc, hls, q, rfl, hq⟩ := hasK_ok hk
    simp only [hasK, Bool.and_eq_true] at hk
    obtain ⟨⟨⟨g1, g2⟩, g3⟩, -⟩ := hk
    rw [show ((q : Nat) : Int).toNat = q by omega] at h ⊢
    have ls := leastFrom_spec d xs q pts 11 (-5) h
    generalize (leastFrom d xs q pts 11 (-5)).1 = g at *
    have ub := unitN_bd hc (xs.getD q noItem) (xs.getD q noItem).1.length
    have bb := baseF_bd hc hls q
    have pu := point_unit d hc xs q g ls.1 (by omega)
    have hxm : xs.getD q noItem ∈ xs := by rw [List.getD_eq_getElem?_getD, List.getElem?_eq_getElem hq]; exact List.getElem_mem _
    have ib : itemB (xs.getD q noItem) = true := by
      simp only [itemsB, Bool.and_eq_true, List.all_eq_true] at g2
      exact g2.1 _ hxm
    have kb : knownI d.1 (xs.getD q noItem) = true := by
      simp only [knownB, List.all_eq_true] at g3
      exact g3 _ hxm
    refine ⟨q, rfl, hq, by unfold goodB; rw [g1, g2, g3]; rfl, ?_, ub.1, ?_, bb.1, ?_, pb.1, pb.2, ls.1, by omega, fun e => ?_, fun e => ?_⟩
    · unfold unitLaw; rw [g1, ib, kb]; rfl
    · have := ub.2; show unitF d _ ≤ 2000; unfold unitF; omega
    · have := bb.2; omega
    · have := ls.2.2; have := pu.1; omega
    · have := ls.2.2; have := pu.2 (by omega); omega
  · simp at h
theorem unitLaw_nn (d : CoD) (x : ItD) (h : (unitLaw d x).2 = true) : 0 ≤ (unitLaw d x).1 := by
  unfold unitLaw at *
  split at h
  · next hc =>
    simp only [Bool.and_eq_true] at hc
    rw [if_pos (by simp only [Bool.and_eq_true]; exact hc)]
    exact (unitN_bd (codeB_ok hc.1.1) x x.1.length).1
  · simp at h
end Go.Proofs.YtaoeomgehpdedaaGreat
