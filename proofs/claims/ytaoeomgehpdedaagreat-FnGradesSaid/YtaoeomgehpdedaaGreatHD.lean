/- Plain laws on scores: trimmed sums lie between their marks; grade points are at most half a unit; the best item. -/
import Derived.Test.YtaoeomgehpdedaaGreatRS
namespace Go.Proofs.YtaoeomgehpdedaaGreat
open Go.RowKit Go.Sort
set_option linter.unusedVariables false

theorem inB_rg {a b n : Int} (h : inB a b n = true) : a ≤ n ∧ n ≤ b := by simpa [inB] using h
theorem sum_rng {zs : List Int} {lo hi : Int} (h : ∀ z ∈ zs, lo ≤ z ∧ z ≤ hi) : lo * (zs.length : Int) ≤ zs.sum ∧ zs.sum ≤ hi * (zs.length : Int) := by
  induction zs with
  | nil => simp
  | cons x t ih =>
    have h1 := ih (fun z hz => h z (by simp [hz]))
    have h2 := h x (by simp)
    rw [List.sum_cons, List.length_cons, show ((t.length + 1 : Nat) : Int) = (t.length : Int) + 1 by omega, Int.mul_add, Int.mul_add, Int.mul_one, Int.mul_one]
    generalize lo * (t.length : Int) = P at *
    generalize hi * (t.length : Int) = Q at *
    omega
theorem perm_sumZ {l l' : List Int} (h : l.Perm l') : l.sum = l'.sum := by
  induction h with
  | nil => rfl
  | cons x _ ih => simp only [List.sum_cons, ih]
  | swap x y l => simp only [List.sum_cons]; omega
  | trans _ _ h1 h2 => exact h1.trans h2
/-- A trimmed sum lies between the least and the greatest number, so many times. -/
theorem trim_rng {zs : List Int} {lo hi : Int} (h : ∀ z ∈ zs, lo ≤ z ∧ z ≤ hi) : lo * (trimF zs).2 ≤ (trimF zs).1 ∧ (trimF zs).1 ≤ hi * (trimF zs).2 := by
  unfold trimF
  split
  · exact sum_rng h
  · next hl =>
    have hne : zs ≠ [] := by rintro rfl; simp at hl
    obtain ⟨x1, x2⟩ := maxL_spec zs hne
    obtain ⟨n1, n2⟩ := minL_spec zs hne
    generalize maxL zs = mx at *
    generalize minL zs = mn at *
    have p1 := List.perm_cons_erase x1
    have l1 := p1.length_eq
    have hn : mn ∈ zs.erase mx := by
      by_cases e : mn = mx
      · cases hz : zs.erase mx with
        | nil => rw [hz] at l1; simp at l1; omega
        | cons y t =>
          have hy : y ∈ zs := List.mem_of_mem_erase (by rw [hz]; simp)
          have a1 := x2 y hy
          have a2 := n2 y hy
          have : y = mn := by omega
          rw [this]; simp
      · exact (List.mem_erase_of_ne e).2 n1
    have p2 := List.perm_cons_erase hn
    have l2 := p2.length_eq
    have s1 := perm_sumZ p1
    have s2 := perm_sumZ p2
    have hr := sum_rng (zs := (zs.erase mx).erase mn) (lo := lo) (hi := hi) (fun z hz => h z (List.mem_of_mem_erase (List.mem_of_mem_erase hz)))
    simp only [List.length_cons, List.sum_cons] at l1 l2 s1 s2
    have e1 : (zs.length : Int) - 2 = (((zs.erase mx).erase mn).length : Int) := by omega
    have e2 : zs.sum - mx - mn = ((zs.erase mx).erase mn).sum := by omega
    show lo * ((zs.length : Int) - 2) ≤ zs.sum - mx - mn ∧ zs.sum - mx - mn ≤ hi * ((zs.length : Int) - 2)
    rw [e1, e2]
    exact hr
theorem pts_bd {s u c : Int} (h1 : -5 * c ≤ s) (h2 : s ≤ 5 * c) (hu : 0 ≤ u) (hc : 1 ≤ c) : 2 * roundP s u c ≤ u + 1 ∧ -(2 * roundP s u c) ≤ u + 1 := by
  unfold roundP roundI
  have t1 : s * u ≤ 5 * c * u := Int.mul_le_mul_of_nonneg_right h2 hu
  have t2 : -5 * c * u ≤ s * u := Int.mul_le_mul_of_nonneg_right h1 hu
  have hp : 0 < 2 * (10 * c) := by omega
  have q1 := Int.ediv_mul_le (2 * (s * u) + 10 * c) (show 2 * (10 * c) ≠ 0 by omega)
  have q2 := Int.lt_ediv_add_one_mul_self (2 * (s * u) + 10 * c) hp
  generalize (2 * (s * u) + 10 * c) / (2 * (10 * c)) = q at *
  have e1 : q * (2 * (10 * c)) = 20 * (c * q) := by rw [Int.mul_comm q, Int.mul_assoc, Int.mul_assoc]; omega
  have e2 : (q + 1) * (2 * (10 * c)) = 20 * (c * q) + 20 * c := by rw [Int.add_mul, e1]; omega
  have e3 : 5 * c * u = 5 * (c * u) := Int.mul_assoc _ _ _
  have e4 : -5 * c * u = -5 * (c * u) := Int.mul_assoc _ _ _
  rw [e1] at q1
  rw [e2] at q2
  rw [e3] at t1
  rw [e4] at t2
  have f1 : c * (2 * q) = 2 * (c * q) := Int.mul_left_comm _ _ _
  have f2 : c * (u + 1) = c * u + c := by rw [Int.mul_add, Int.mul_one]
  have f3 : c * (-u - 1) = -(c * u) - c := by rw [Int.mul_sub, Int.mul_one, Int.mul_neg]
  generalize s * u = t at *
  constructor
  · refine Int.le_of_mul_le_mul_left (a := c) ?_ (by omega)
    rw [f1, f2]; omega
  · have : c * (-u - 1) < c * (2 * q) := by rw [f1, f3]; omega
    have := Int.lt_of_mul_lt_mul_left this (by omega)
    omega
/-- The grades of judged items. -/
theorem JOk.five {d : CoD} {xs : List ItD} {m : MD} (h : JOk d xs m) {k : Nat} (hk : k < xs.length) : ∀ z ∈ gradesAt m k, -5 ≤ z ∧ z ≤ 5 := by
  have hm := h.mr
  simp only [marksB, Bool.and_eq_true, List.all_eq_true] at hm
  have hl : k < m.1.length := by rw [h.ln]; exact hk
  have hx : gradesAt m k ∈ m.1 := by
    unfold gradesAt
    rw [List.getD_eq_getElem?_getD, List.getElem?_eq_getElem hl]
    exact List.getElem_mem _
  have hr := hm.1.2 _ hx
  unfold okRow at hr
  simp only [Bool.and_eq_true, List.all_eq_true] at hr
  intro z hz
  exact inB_rg (hr.2 z hz)
theorem pointF_unit {d : CoD} {xs : List ItD} {m : MD} (h : JOk d xs m) {k : Nat} (hk : k < xs.length) : 2 * pointF d xs k (gradesAt m k) ≤ unitF d (xs.getD k noItem) + 1 ∧ -(2 * pointF d xs k (gradesAt m k)) ≤ unitF d (xs.getD k noItem) + 1 ∧ (baseF d xs k = 0 → pointF d xs k (gradesAt m k) = 0) := by
  obtain ⟨x, -, hx, hg⟩ := h.grades hk
  have h5 := h.five hk
  have hu := unitN_bd h.co (xs.getD k noItem) (xs.getD k noItem).1.length
  have hu0 : 0 ≤ unitF d (xs.getD k noItem) := hu.1
  rw [hx] at h5 ⊢
  have tr := trim_rng h5
  have tb := trim_bd hg
  have pb := pts_bd tr.1 tr.2 hu0 tb.2.2.1
  unfold pointF
  refine ⟨?_, ?_, fun hb => by rw [if_pos hb]⟩
  · split
    · omega
    · exact pb.1
  · split
    · omega
    · exact pb.2
theorem best_top (d : CoD) (xs : List ItD) (m : MD) : ∀ k i, i < k → scoreF d xs m i ≤ scoreF d xs m (bestN d xs m k) ∧ (i < bestN d xs m k → scoreF d xs m i < scoreF d xs m (bestN d xs m k)) := by
  intro k
  induction k with
  | zero => intro i hi; omega
  | succ k ih =>
    intro i hi
    have hb := bestN_le d xs m k
    unfold bestN
    split
    · next hlt =>
      by_cases e : i = k
      · subst e; exact ⟨Int.le_refl _, fun h => absurd h (Nat.lt_irrefl _)⟩
      · have := (ih i (by omega)).1
        exact ⟨by omega, fun _ => by omega⟩
    · next hge =>
      by_cases e : i = k
      · subst e; exact ⟨by omega, fun h => by omega⟩
      · exact ih i (by omega)
/-! ### What the functions answer -/
theorem judged_was (d : CoD) (xs : List ItD) (m : MD) : (areJudgedF d xs m).1 = judgedB d xs m := by
  unfold areJudgedF judgedB
  cases codeB d <;> cases itemsB xs <;> simp
theorem judged_five {d : CoD} {xs : List ItD} {m : MD} (h : judgedB d xs m = true) : (areJudgedF d xs m).2 = true := by
  unfold judgedB at h
  simp only [Bool.and_eq_true] at h
  unfold areJudgedF
  rw [h.1.1.1, h.1.1.2]
  rfl
theorem has_two {d : CoD} {xs : List ItD} {m : MD} {k : Int} (h : hasJ d xs m k = true) : judgedB d xs m = true ∧ 0 ≤ k ∧ k < (xs.length : Int) := by
  unfold hasJ at h
  rw [Bool.and_eq_true] at h
  have := inB_rg h.2
  exact ⟨h.1, this.1, by omega⟩
theorem judged_good {d : CoD} {xs : List ItD} {m : MD} (h : judgedB d xs m = true) : codeB d = true ∧ itemsB xs = true ∧ knownB d.1 xs = true := by
  unfold judgedB at h
  simp only [Bool.and_eq_true] at h
  exact ⟨h.1.1.1, h.1.1.2, h.1.2⟩
end Go.Proofs.YtaoeomgehpdedaaGreat
