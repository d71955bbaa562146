/- GX: PT, PZ, FA in one text. -/
import Derived.Test.YtegoapdbpfhkiaaGreatGY
import Derived.Test.YtegoapdbpfhkiaaGreatGP
import Derived.Test.YtegoapdbpfhkiaaGreatGH
import Derived.Test.YtegoapdbpfhkiaaGreatGW
import Derived.Test.YtegoapdbpfhkiaaGreatGU
import Derived.Test.YtegoapdbpfhkiaaGreatES
import Derived.Test.YtegoapdbpfhkiaaGreatEY
import Derived.Test.YtegoapdbpfhkiaaGreatGV
/- Plain laws on programmes: bases are full ones, they keep within the bound, the order for late items is a programme and not worth less. -/
namespace Go.Proofs.YtegoapdbpfhkiaaGreat
open Go.RowKit Go.Sort
set_option linter.unusedVariables false

/-! ### Sums above a threshold -/
def posP (t z : Int) : Int := if t < z then z - t else 0
theorem posP_nn (t z : Int) : 0 ≤ posP t z := by unfold posP; split <;> omega
theorem posP_ge (t z : Int) : z ≤ t + posP t z := by unfold posP; split <;> omega
theorem sum_nn (l : List Int) (h : ∀ z ∈ l, 0 ≤ z) : 0 ≤ l.sum := by
  induction l with
  | nil => simp
  | cons x t ih =>
    have h1 := h x (by simp)
    have h2 := ih (fun z hz => h z (by simp [hz]))
    rw [List.sum_cons]; omega
theorem sumPos_nn (t : Int) (l : List Int) : 0 ≤ (l.map (posP t)).sum := sum_nn _ (fun z hz => by
  obtain ⟨y, _, rfl⟩ := List.mem_map.1 hz
  exact posP_nn t y)
theorem sum_le_pos (t : Int) (l : List Int) : l.sum ≤ t * (l.length : Int) + (l.map (posP t)).sum := by
  induction l with
  | nil => simp
  | cons x l ih =>
    have h1 := posP_ge t x
    simp only [List.sum_cons, List.length_cons, List.map_cons]
    rw [show ((l.length + 1 : Nat) : Int) = (l.length : Int) + 1 from rfl, Int.mul_add]
    omega
theorem sum_eq_pos (t : Int) (l : List Int) (h : ∀ z ∈ l, t ≤ z) : l.sum = t * (l.length : Int) + (l.map (posP t)).sum := by
  induction l with
  | nil => simp
  | cons x l ih =>
    have h1 := h x (by simp)
    have h2 := ih (fun z hz => h z (by simp [hz]))
    have e : posP t x = x - t := by unfold posP; split <;> omega
    simp only [List.sum_cons, List.length_cons, List.map_cons]
    rw [show ((l.length + 1 : Nat) : Int) = (l.length : Int) + 1 from rfl, Int.mul_add]
    omega
theorem pos_zero (t : Int) (l : List Int) (h : ∀ z ∈ l, z ≤ t) : (l.map (posP t)).sum = 0 := by
  induction l with
  | nil => rfl
  | cons x l ih =>
    have h1 := h x (by simp)
    have e : posP t x = 0 := by unfold posP; split <;> omega
    simp only [List.sum_cons, List.map_cons, ih (fun z hz => h z (by simp [hz])), e]
    rfl
theorem perm_sum {l l' : List Int} (h : l.Perm l') : l.sum = l'.sum := by
  induction h with
  | nil => rfl
  | cons x _ ih => simp only [List.sum_cons, ih]
  | swap x y l => simp only [List.sum_cons]; omega
  | trans _ _ h1 h2 => exact h1.trans h2
/-- What lies among a list's numbers sums to no more than its greatest. -/
theorem le_top (zs ys : List Int) (m : Nat) (hz : ∀ z ∈ zs, 0 ≤ z) (hl : ys.length ≤ m) (hs : ∀ f : Int → Int, (∀ z, 0 ≤ f z) → (ys.map f).sum ≤ (zs.map f).sum) : ys.sum ≤ topS zs m := by
  have hp := sortD_perm zs
  have hlen := sortD_len zs
  have hso := List.pairwise_iff_getElem.1 (sortD_sorted zs)
  by_cases h0 : m = 0
  · subst h0
    have : ys = [] := List.length_eq_zero_iff.1 (by omega)
    subst this
    simp [topS]
  by_cases hm : m ≤ zs.length
  · obtain ⟨t, ht⟩ : ∃ t, t = (sortD zs)[m - 1]'(by omega) := ⟨_, rfl⟩
    have t0 : 0 ≤ t := hz t (hp.mem_iff.1 (by rw [ht]; exact List.getElem_mem _))
    have h1 := sum_le_pos t ys
    have h2 := hs (posP t) (posP_nn t)
    have e1 : (zs.map (posP t)).sum = ((sortD zs).map (posP t)).sum := (perm_sum (hp.map _)).symm
    have e2 : ((sortD zs).map (posP t)).sum = (((sortD zs).take m).map (posP t)).sum + (((sortD zs).drop m).map (posP t)).sum := by
      rw [← List.sum_append, ← List.map_append, List.take_append_drop]
    have e3 : (((sortD zs).drop m).map (posP t)).sum = 0 := pos_zero t _ (fun z hz => by
      obtain ⟨i, hi, rfl⟩ := List.getElem_of_mem hz
      rw [List.getElem_drop, ht]
      rw [List.length_drop] at hi
      exact hso (m - 1) (m + i) (by omega) (by omega) (by omega))
    have e4 := sum_eq_pos t ((sortD zs).take m) (fun z hz => by
      obtain ⟨i, hi, rfl⟩ := List.getElem_of_mem hz
      rw [List.length_take] at hi
      rw [List.getElem_take, ht]
      by_cases e : i = m - 1
      · subst e; exact Int.le_refl _
      · exact hso i (m - 1) (by omega) (by omega) (by omega))
    have e5 : ((sortD zs).take m).length = m := by rw [List.length_take]; omega
    rw [e5] at e4
    have h3 : t * (ys.length : Int) ≤ t * (m : Int) := Int.mul_le_mul_of_nonneg_left (by omega) t0
    unfold topS
    omega
  · have h1 := sum_le_pos 0 ys
    have h2 := hs (posP 0) (posP_nn 0)
    have h3 := sum_eq_pos 0 zs hz
    have h4 : topS zs m = zs.sum := by unfold topS; rw [List.take_of_length_le (by omega), perm_sum hp]
    rw [h4]
    omega
/-- In increasing order the last ones sum to most. -/
theorem drop_le {a b : List Int} (hp : a.Perm b) (hs : b.Pairwise (· ≤ ·)) (h : Nat) : (a.drop h).sum ≤ (b.drop h).sum := by
  have hl := hp.length_eq
  by_cases hh : h < b.length
  · obtain ⟨t, ht⟩ : ∃ t, t = b[h] := ⟨_, rfl⟩
    have hso := List.pairwise_iff_getElem.1 hs
    have h1 := sum_le_pos t (a.drop h)
    have h2 : ((a.drop h).map (posP t)).sum ≤ (a.map (posP t)).sum := by
      have e : (a.map (posP t)).sum = ((a.take h).map (posP t)).sum + ((a.drop h).map (posP t)).sum := by
        rw [← List.sum_append, ← List.map_append, List.take_append_drop]
      have := sumPos_nn t (a.take h)
      omega
    have e1 : (a.map (posP t)).sum = (b.map (posP t)).sum := perm_sum (hp.map _)
    have e2 : (b.map (posP t)).sum = ((b.take h).map (posP t)).sum + ((b.drop h).map (posP t)).sum := by
      rw [← List.sum_append, ← List.map_append, List.take_append_drop]
    have e3 : ((b.take h).map (posP t)).sum = 0 := pos_zero t _ (fun z hz => by
      obtain ⟨i, hi, rfl⟩ := List.getElem_of_mem hz
      rw [List.length_take] at hi
      rw [List.getElem_take, ht]
      exact hso i h (by omega) (by omega) (by omega))
    have e4 := sum_eq_pos t (b.drop h) (fun z hz => by
      obtain ⟨i, hi, rfl⟩ := List.getElem_of_mem hz
      rw [List.length_drop] at hi
      rw [List.getElem_drop, ht]
      by_cases e : i = 0
      · subst e; exact Int.le_refl _
      · exact hso h (h + i) (by omega) (by omega) (by omega))
    have e5 : (a.drop h).length = (b.drop h).length := by rw [List.length_drop, List.length_drop, hl]
    rw [e5] at h1
    omega
  · rw [List.drop_eq_nil_of_le (by omega), List.drop_eq_nil_of_le (by omega)]
    exact Int.le_refl _

/-! ### Sums over indices -/
def sumR (n : Nat) (f : Nat → Int) : Int := ((List.range n).map f).sum
theorem sumR_succ (n : Nat) (f : Nat → Int) : sumR (n + 1) f = sumR n f + f n := by
  unfold sumR
  rw [List.range_succ, List.map_append, List.sum_append]
  simp
theorem sumR_le (n : Nat) {f g : Nat → Int} (h : ∀ i, i < n → f i ≤ g i) : sumR n f ≤ sumR n g := by
  induction n with
  | zero => exact Int.le_refl _
  | succ n ih =>
    rw [sumR_succ, sumR_succ]
    have h1 := ih (fun i hi => h i (by omega))
    have h2 := h n (by omega)
    omega
theorem sumR_one (n a : Nat) (g : Nat → Int) : sumR n (fun i => if i = a then g i else 0) = if a < n then g a else 0 := by
  induction n with
  | zero => simp [sumR]
  | succ n ih =>
    rw [sumR_succ, ih]
    by_cases e : n = a
    · subst e; simp
    · rw [if_neg e]
      by_cases h : a < n
      · rw [if_pos h, if_pos (by omega)]; omega
      · rw [if_neg h, if_neg (by omega)]; rfl
theorem sumR_zero (n : Nat) : sumR n (fun _ => 0) = 0 := by
  induction n with
  | zero => rfl
  | succ n ih => rw [sumR_succ, ih]; rfl
theorem sumR_add (n : Nat) (f g : Nat → Int) : sumR n (fun i => f i + g i) = sumR n f + sumR n g := by
  induction n with
  | zero => rfl
  | succ n ih => rw [sumR_succ, sumR_succ, sumR_succ, ih]; omega
/-- Each index as often as it occurs. -/
theorem sum_count (n : Nat) (g : Nat → Int) (L : List Nat) (h : ∀ i ∈ L, i < n) : (L.map g).sum = sumR n (fun i => ((L.filter (fun j => j == i)).length : Int) * g i) := by
  induction L with
  | nil => simp only [List.map_nil, List.sum_nil, List.filter_nil, List.length_nil]; rw [show (fun i => ((0 : Nat) : Int) * g i) = fun _ => 0 by funext i; simp]; exact (sumR_zero n).symm
  | cons a L ih =>
    rw [List.map_cons, List.sum_cons, ih (fun i hi => h i (by simp [hi]))]
    have e : (fun i => (((a :: L).filter (fun j => j == i)).length : Int) * g i) = fun i => (if i = a then g i else 0) + ((L.filter (fun j => j == i)).length : Int) * g i := by
      funext i
      by_cases hi : a = i
      · subst hi
        simp only [List.filter_cons, BEq.rfl, if_true, List.length_cons]
        rw [show ((((L.filter (fun j => j == a)).length + 1 : Nat) : Int)) = ((L.filter (fun j => j == a)).length : Int) + 1 from rfl, Int.add_mul]
        omega
      · have hb : (a == i) = false := by simpa using hi
        rw [if_neg (fun e => hi e.symm)]
        simp only [List.filter_cons, hb]
        simp
    rw [e, sumR_add, sumR_one, if_pos (h a (by simp))]
theorem sum_atMost (n : Nat) (r : Int) (g : Nat → Int) (hg : ∀ i, 0 ≤ g i) (L : List Nat) (h : ∀ i ∈ L, i < n) (hc : ∀ i, i < n → ((L.filter (fun j => j == i)).length : Int) ≤ r) : (L.map g).sum ≤ sumR n (fun i => r * g i) := by
  rw [sum_count n g L h]
  exact sumR_le n (fun i hi => Int.mul_le_mul_of_nonneg_right (hc i hi) (hg i))

/-! ### The names of a programme -/
def namesL (xs : List ItD) : List (List UInt8) := (xs.map (fun x => x.1)).flatten
theorem occN_names (xs : List ItD) (nm : List UInt8) : occN xs nm = ((namesL xs).filter (fun o => o == nm)).length := by
  induction xs with
  | nil => rfl
  | cons x t ih =>
    rw [occN_cons, ih]
    show _ = ((x.1 ++ namesL t).filter _).length
    rw [List.filter_append, List.length_append]
    rfl
/-- A known name's element. -/
def elNm (d : CoD) (nm : List UInt8) : ElD := d.1.getD (findF d.1 nm).toNat noEl
theorem sum_rep (r : Nat) (y : Int) : (List.replicate r y).sum = (r : Int) * y := by
  induction r with
  | zero => simp
  | succ r ihr => rw [List.replicate_succ, List.sum_cons, ihr, show ((r + 1 : Nat) : Int) = (r : Int) + 1 from rfl, Int.add_mul]; omega
theorem basK_map (xs : List ElD) (r : Nat) (f : Int → Int) : ∀ k, k ≤ xs.length → ((basK xs r k).map f).sum = sumR k (fun i => (r : Int) * f (baseE (xs.getD i noEl))) := by
  intro k
  induction k with
  | zero => intro _; rfl
  | succ k ih =>
    intro hk
    rw [sumR_succ, basK_succ (List.getElem?_eq_getElem (show k < xs.length by omega)), List.map_append, List.sum_append, ih (by omega), List.map_replicate]
    have e : xs.getD k noEl = xs[k] := by rw [List.getD_eq_getElem?_getD, List.getElem?_eq_getElem (show k < xs.length by omega)]; rfl
    rw [e]
    congr 1
    exact sum_rep r _
structure PgP (d : CoD) (xs : List ItD) : Prop where
  cd : codeB d = true
  it : itemsB xs = true
  ne : 0 < xs.length
  kn : knownB d.1 xs = true
  cl : ∀ x ∈ xs, x.2.1.all (inB 0 0) = true
  two : (twoN xs : Int) ≤ 3
  thr : (threeN xs : Int) ≤ 1
  rep : ∀ x ∈ xs, ∀ nm ∈ x.1, (occN xs nm : Int) ≤ d.2.2.1
  lt : lateB xs = true
theorem progP {d : CoD} {xs : List ItD} (h : progB d xs = true) : PgP d xs := by
  have hc := progB_code h
  have h1 := progB_rule h 0 (by decide)
  have h3 := progB_rule h 2 (by decide)
  have h5 := progB_rule h 4 (by decide)
  have h7 := progB_rule h 6 (by decide)
  have h8 := progB_rule h 7 (by decide)
  have e1 : ruleB d xs (((0 : Nat) : Int) + 1) = decide (0 < (xs.length : Int)) := rfl
  have e3 : ruleB d xs (((2 : Nat) : Int) + 1) = xs.all (fun x => x.2.1.all (inB 0 0)) := rfl
  have e5 : ruleB d xs (((4 : Nat) : Int) + 1) = (decide ((twoN xs : Int) ≤ 3) && decide ((threeN xs : Int) ≤ 1)) := rfl
  have e7 : ruleB d xs (((6 : Nat) : Int) + 1) = xs.all (fun x => x.1.all (repW d xs)) := rfl
  have e8 : ruleB d xs (((7 : Nat) : Int) + 1) = lateB xs := rfl
  rw [e1, decide_eq_true_eq] at h1
  rw [e3, List.all_eq_true] at h3
  rw [e5, Bool.and_eq_true, decide_eq_true_eq, decide_eq_true_eq] at h5
  rw [e7, List.all_eq_true] at h7
  rw [e8] at h8
  refine ⟨hc.1, hc.2, by omega, progB_known h, h3, h5.1, h5.2, fun x hx nm hn => ?_, h8⟩
  have := (List.all_eq_true.1 (h7 x hx)) nm hn
  unfold repW at this
  rw [Bool.and_eq_true, decide_eq_true_eq] at this
  exact this.1
theorem PgP.itB {d : CoD} {xs : List ItD} (h : PgP d xs) {x : ItD} (hx : x ∈ xs) : itemB x = true := by
  have := h.it
  simp only [itemsB, Bool.and_eq_true, List.all_eq_true] at this
  exact this.1 x hx
theorem PgP.knI {d : CoD} {xs : List ItD} (h : PgP d xs) {x : ItD} (hx : x ∈ xs) {nm : List UInt8} (hn : nm ∈ x.1) : 0 ≤ findF d.1 nm := by
  have := h.kn
  simp only [knownB, knownI, List.all_eq_true, decide_eq_true_eq] at this
  exact this x hx nm hn
theorem PgP.nm {d : CoD} {xs : List ItD} (h : PgP d xs) {nm : List UInt8} (hn : nm ∈ namesL xs) : 0 ≤ findF d.1 nm ∧ (occN xs nm : Int) ≤ d.2.2.1 := by
  obtain ⟨l, hl, hnl⟩ := List.mem_flatten.1 hn
  obtain ⟨x, hx, rfl⟩ := List.mem_map.1 hl
  exact ⟨h.knI hx hnl, h.rep x hx nm hnl⟩
theorem names_len (xs : List ItD) (h : ∀ x ∈ xs, x.1.length ≤ 3) : (namesL xs).length ≤ xs.length + twoN xs + threeN xs := by
  induction xs with
  | nil => simp [namesL]
  | cons x t ih =>
    have h1 := h x (by simp)
    have h2 := ih (fun y hy => h y (by simp [hy]))
    have e1 : namesL (x :: t) = x.1 ++ namesL t := rfl
    have e2 : twoN (x :: t) = (if combI x then 1 else 0) + twoN t := by
      unfold twoN; rw [List.filter_cons]; split <;> simp [Nat.add_comm]
    have e3 : threeN (x :: t) = (if decide (2 < x.1.length) = true then 1 else 0) + threeN t := by
      unfold threeN; rw [List.filter_cons]; split <;> simp [Nat.add_comm]
    rw [e1, List.length_append, e2, e3, List.length_cons]
    unfold combI
    simp only [decide_eq_true_eq]
    split <;> split <;> omega
/-- Names of one element are one name. -/
theorem find_same {d : CoD} {nm nm' : List UInt8} (hc : codeB d = true) (h : 0 ≤ findF d.1 nm) (h' : 0 ≤ findF d.1 nm') (e : (findF d.1 nm).toNat = (findF d.1 nm').toNat) : nm = nm' := by
  have h1 := (find_name hc h).2
  have h2 := (find_name hc h').2
  rw [← h1, ← h2, e]
/-- The bases of a programme's names sum to no more than the greatest. -/
theorem names_top {d : CoD} {xs : List ItD} (h : PgP d xs) : ((namesL xs).map (fun nm => baseE (elNm d nm))).sum ≤ planS d xs.length := by
  have hd := codeB_ok h.cd
  have hr := hd.rep
  have hlen := names_len xs (fun x hx => (itemB_ok (h.itB hx)).2.1)
  have h2 := h.two
  have h3 := h.thr
  have e0 : ((xs.length : Int) + 4).toNat = xs.length + 4 := by omega
  unfold planS
  rw [e0]
  refine le_top _ _ _ (fun z hz => (basK_bd hd _ _ z hz).1) (by rw [List.length_map]; omega) (fun f hf => ?_)
  unfold basL
  rw [basK_map _ _ f _ (Nat.le_refl _)]
  have e1 : ((namesL xs).map (fun nm => baseE (elNm d nm))).map f = ((namesL xs).map (fun nm => (findF d.1 nm).toNat)).map (fun i => f (baseE (d.1.getD i noEl))) := by
    rw [List.map_map, List.map_map]
    rfl
  rw [e1]
  refine sum_atMost _ _ _ (fun i => hf _) _ (fun i hi => ?_) (fun i hi => ?_)
  · obtain ⟨nm, hn, rfl⟩ := List.mem_map.1 hi
    have h1 := (h.nm hn).1
    have h2 := findF_lt d.1 nm
    omega
  · by_cases hx : ∃ nm ∈ namesL xs, (findF d.1 nm).toNat = i
    · obtain ⟨nm, hn, rfl⟩ := hx
      have h1 := h.nm hn
      rw [occN_names] at h1
      rw [List.filter_map, List.length_map]
      have e : ((namesL xs).filter ((fun j => j == (findF d.1 nm).toNat) ∘ fun nm => (findF d.1 nm).toNat)) = (namesL xs).filter (fun o => o == nm) := by
        refine List.filter_congr (fun o ho => ?_)
        rw [Bool.eq_iff_iff]
        simp only [Function.comp, beq_iff_eq]
        exact ⟨fun e => find_same h.cd (h.nm ho).1 h1.1 e, fun e => by rw [e]⟩
      rw [e]
      omega
    · have e : ((namesL xs).map (fun nm => (findF d.1 nm).toNat)).filter (fun j => j == i) = [] := by
        rw [List.filter_eq_nil_iff]
        intro j hj
        obtain ⟨nm, hn, rfl⟩ := List.mem_map.1 hj
        simp only [beq_iff_eq]
        exact fun e => hx ⟨nm, hn, e⟩
      rw [e]
      simp only [List.length_nil]
      omega
/-- The worths of an item without marks. -/
theorem worths_clean {d : CoD} {x : ItD} (h : x.2.1.all (inB 0 0) = true) : worthsF d x = x.1.map (fun nm => baseE (elNm d nm)) := by
  unfold worthsF worthsN
  refine List.ext_getElem (by simp) (fun i hi _ => ?_)
  simp only [List.length_map, List.length_range] at hi
  rw [List.getElem_map, List.getElem_map, List.getElem_range]
  unfold worthAt worthN worthE
  have e : x.2.1.getD i 0 = 0 := by
    rw [List.getD_eq_getElem?_getD]
    cases hx : x.2.1[i]? with
    | none => rfl
    | some z =>
      have := (List.all_eq_true.1 h) z (List.mem_of_getElem? hx)
      simp only [inB, Bool.and_eq_true, decide_eq_true_eq] at this
      show z = 0
      omega
  have e2 : x.1.getD i [] = x.1[i] := by rw [List.getD_eq_getElem?_getD, List.getElem?_eq_getElem hi]; rfl
  rw [e, e2, if_neg (by decide), if_neg (by decide), if_neg (by decide)]
  rfl
/-- An item's worth before its bonus. -/
def wSum (d : CoD) (x : ItD) : Int := (worthsF d x).sum
theorem full_bound {d : CoD} (hd : CodeOk d) (x : ItD) (h0 : 0 ≤ wSum d x) : 200 * fullF d x ≤ 2 * (wSum d x * (100 + d.2.2.2.1)) + 100 := by
  have hb := hd.bon
  have h1 : 0 ≤ wSum d x * d.2.2.2.1 := Int.mul_nonneg h0 hb.1
  unfold fullF
  show 200 * (if x.2.2 = true then roundI (wSum d x * (100 + d.2.2.2.1)) 100 else wSum d x) ≤ _
  split
  · unfold roundI
    generalize wSum d x * (100 + d.2.2.2.1) = A
    omega
  · rw [Int.mul_add]
    omega
theorem sum_full_bound {d : CoD} (hd : CodeOk d) (xs : List ItD) (h0 : ∀ x ∈ xs, 0 ≤ wSum d x) : 200 * (xs.map (fullF d)).sum ≤ 2 * ((xs.map (wSum d)).sum * (100 + d.2.2.2.1)) + 100 * (xs.length : Int) := by
  induction xs with
  | nil => simp
  | cons x t ih =>
    have h1 := ih (fun y hy => h0 y (by simp [hy]))
    have h2 := full_bound hd x (h0 x (by simp))
    simp only [List.map_cons, List.sum_cons, List.length_cons]
    rw [Int.add_mul]
    omega
theorem occN_app (xs ys : List ItD) (nm : List UInt8) : occN (xs ++ ys) nm = occN xs nm + occN ys nm := by
  unfold occN
  rw [List.map_append, List.sum_append]
theorem rep_occ (xs : List ItD) (y : ItD) (h : ∀ x ∈ xs, 0 < x.1.length) : (xs.filter (repP y)).length ≤ occN xs (y.1.getD 0 []) := by
  induction xs with
  | nil => simp
  | cons x t ih =>
    have h1 := ih (fun z hz => h z (by simp [hz]))
    rw [occN_cons, List.filter_cons]
    split
    · next hr =>
      unfold repP at hr
      rw [Bool.and_eq_true, beq_iff_eq] at hr
      have h0 := h x (by simp)
      have hm : x.1.getD 0 [] ∈ x.1 := by
        rw [List.getD_eq_getElem?_getD, List.getElem?_eq_getElem h0]
        exact List.getElem_mem _
      rw [hr.1] at hm
      have := occI_pos hm
      rw [List.length_cons]
      omega
    · omega
theorem base_full {d : CoD} {xs : List ItD} (h : PgP d xs) {k : Nat} (hk : k < xs.length) : baseF d xs k = fullF d xs[k] := by
  have e : xs.getD k noItem = xs[k] := by rw [List.getD_eq_getElem?_getD, List.getElem?_eq_getElem hk]; rfl
  have hm : xs[k] ∈ xs := List.getElem_mem _
  have hn0 : 0 < xs[k].1.length := (itemB_ok (h.itB hm)).1
  have hn : xs[k].1.getD 0 [] ∈ xs[k].1 := by
    rw [List.getD_eq_getElem?_getD, List.getElem?_eq_getElem hn0]
    exact List.getElem_mem _
  have h1 := h.rep _ hm _ hn
  have h2 := rep_occ (xs.take k) xs[k] (fun x hx => (itemB_ok (h.itB (List.mem_of_mem_take hx))).1)
  have h3 : occN xs (xs[k].1.getD 0 []) = occN (xs.take k) (xs[k].1.getD 0 []) + (occI (xs[k].1.getD 0 []) xs[k] + occN (xs.drop (k + 1)) (xs[k].1.getD 0 [])) := by
    generalize xs[k].1.getD 0 [] = nm
    have e1 : xs = xs.take k ++ xs[k] :: xs.drop (k + 1) := by rw [← List.drop_eq_getElem_cons hk, List.take_append_drop]
    have e2 : occN xs nm = occN (xs.take k ++ xs[k] :: xs.drop (k + 1)) nm := congrArg (fun l => occN l nm) e1
    rw [e2, occN_app, occN_cons]
  have h4 := occI_pos hn
  unfold baseF
  rw [e, if_pos]
  unfold repF repN
  rw [e]
  omega
theorem bases_full {d : CoD} {xs : List ItD} (h : PgP d xs) : basesF d xs = xs.map (fullF d) := by
  unfold basesF basesN
  refine List.ext_getElem (by simp) (fun i hi _ => ?_)
  simp only [List.length_map, List.length_range] at hi
  rw [List.getElem_map, List.getElem_map, List.getElem_range, base_full h hi]
theorem wSum_nn {d : CoD} (hd : CodeOk d) (x : ItD) : 0 ≤ wSum d x := (sum_bd2 _ (worthsN_bd hd x _)).1
theorem wSum_names {d : CoD} {xs : List ItD} (h : ∀ x ∈ xs, x.2.1.all (inB 0 0) = true) : (xs.map (wSum d)).sum = ((namesL xs).map (fun nm => baseE (elNm d nm))).sum := by
  induction xs with
  | nil => rfl
  | cons x t ih =>
    have e : namesL (x :: t) = x.1 ++ namesL t := rfl
    rw [e, List.map_append, List.sum_append, ← ih (fun y hy => h y (by simp [hy])), List.map_cons, List.sum_cons]
    unfold wSum
    rw [worths_clean (h x (by simp))]
/-- A programme keeps within the bound of its number of items. -/
theorem prog_bound {d : CoD} {xs : List ItD} (h : progB d xs = true) : planF d xs.length = ((planF d xs.length).1, true) ∧ (basesF d xs).sum ≤ (planF d xs.length).1 := by
  have hp := progP h
  have hd := codeB_ok hp.cd
  have hn : (xs.length : Int) ≤ 14 := by
    have := hp.it
    simp only [itemsB, Bool.and_eq_true, decide_eq_true_eq] at this
    exact this.2
  have hn0 := hp.ne
  have hg : (codeB d && inB 1 14 (xs.length : Int)) = true := by
    rw [hp.cd]
    simp only [inB, Bool.true_and, Bool.and_eq_true, decide_eq_true_eq]
    omega
  have e1 : planF d xs.length = ((planS d xs.length * (100 + d.2.2.2.1) + 99) / 100 + xs.length, true) := by
    unfold planF
    rw [if_pos hg]
  rw [e1]
  refine ⟨rfl, ?_⟩
  rw [bases_full hp]
  have h1 := sum_full_bound hd xs (fun x _ => wSum_nn hd x)
  have h2 := names_top hp
  rw [← wSum_names hp.cl] at h2
  have hb := hd.bon
  have h3 : (xs.map (wSum d)).sum * (100 + d.2.2.2.1) ≤ planS d xs.length * (100 + d.2.2.2.1) := Int.mul_le_mul_of_nonneg_right h2 (by omega)
  generalize (xs.map (wSum d)).sum * (100 + d.2.2.2.1) = A at *
  generalize planS d xs.length * (100 + d.2.2.2.1) = B at *
  generalize (xs.map (fullF d)).sum = C at *
  show C ≤ (B + 99) / 100 + (xs.length : Int)
  omega
end Go.Proofs.YtegoapdbpfhkiaaGreat

/- The order for late items is a programme and worth no less; the best replacement gains most. -/
namespace Go.Proofs.YtegoapdbpfhkiaaGreat
open Go.RowKit Go.Sort
set_option linter.unusedVariables false

section
variable {α : Type} [Inhabited α]
omit [Inhabited α] in
theorem insAt_perm (out : List α) (y : α) (p : Nat) : (insAt out y p).Perm (y :: out) := by
  unfold insAt
  have h := List.perm_middle (l₁ := out.take p) (l₂ := out.drop p) (a := y)
  rwa [List.take_append_drop] at h
theorem sortS_perm (lt : α → α → Bool) (xs : List α) : (sortS lt xs).Perm xs := by
  have : ∀ (xs out : List α), (xs.foldl (insS lt) out).Perm (out ++ xs) := by
    intro xs
    induction xs with
    | nil => intro out; simp
    | cons x t ih =>
      intro out
      rw [List.foldl_cons]
      refine (ih _).trans ?_
      refine (List.Perm.append_right t (insAt_perm out x _)).trans ?_
      exact (List.perm_middle (l₁ := out) (l₂ := t) (a := x)).symm
  have h := this xs []
  rw [List.nil_append] at h
  exact h
theorem posS_spec (lt : α → α → Bool) (out : List α) (y : α) (k : Nat) : (∀ i, posS lt out y k ≤ i → i < k → lt y (out.getD i default) = true) ∧ (0 < posS lt out y k → lt y (out.getD (posS lt out y k - 1) default) = false) := by
  induction k with
  | zero => exact ⟨fun i _ h => absurd h (by omega), fun h => absurd h (Nat.lt_irrefl 0)⟩
  | succ k ih =>
    unfold posS
    split
    · next h =>
      refine ⟨fun i h1 h2 => ?_, ih.2⟩
      by_cases e : i = k
      · subst e; exact h
      · exact ih.1 i h1 (by omega)
    · next h =>
      refine ⟨fun i h1 h2 => absurd h2 (by omega), fun _ => ?_⟩
      rw [Nat.add_sub_cancel]
      simpa using h
theorem sortS_up (f : α → Int) (xs : List α) : (sortS (fun x y => decide (f x < f y)) xs).Pairwise (fun x y => f x ≤ f y) := by
  have : ∀ (xs out : List α), out.Pairwise (fun x y => f x ≤ f y) → (xs.foldl (insS (fun x y => decide (f x < f y))) out).Pairwise (fun x y => f x ≤ f y) := by
    intro xs
    induction xs with
    | nil => intro out h; exact h
    | cons y t ih =>
      intro out h
      rw [List.foldl_cons]
      refine ih _ ?_
      obtain ⟨s1, s2⟩ := posS_spec (fun x y => decide (f x < f y)) out y out.length
      have hle := posS_le (fun x y => decide (f x < f y)) out y out.length
      unfold insS insAt
      generalize posS (fun x y => decide (f x < f y)) out y out.length = p at *
      have hsp := h
      rw [← List.take_append_drop p out, List.pairwise_append] at hsp
      have hd : ∀ z ∈ out.drop p, f y ≤ f z := by
        intro z hz
        obtain ⟨i, hi, rfl⟩ := List.getElem_of_mem hz
        rw [List.length_drop] at hi
        have := s1 (p + i) (by omega) (by omega)
        rw [List.getD_eq_getElem?_getD, List.getElem?_eq_getElem (by omega), Option.getD_some, decide_eq_true_eq] at this
        rw [List.getElem_drop]
        omega
      have ht : ∀ z ∈ out.take p, f z ≤ f y := by
        intro z hz
        obtain ⟨i, hi, rfl⟩ := List.getElem_of_mem hz
        rw [List.length_take] at hi
        have := s2 (by omega)
        rw [List.getD_eq_getElem?_getD, List.getElem?_eq_getElem (by omega), Option.getD_some, decide_eq_false_iff_not] at this
        rw [List.getElem_take]
        by_cases e : i = p - 1
        · subst e; omega
        · have := List.pairwise_iff_getElem.1 h i (p - 1) (by omega) (by omega) (by omega)
          omega
      rw [List.pairwise_append]
      refine ⟨hsp.1, List.pairwise_cons.2 ⟨hd, hsp.2.1⟩, fun a ha b hb => ?_⟩
      rcases List.mem_cons.1 hb with rfl | hb
      · exact ht a ha
      · exact hsp.2.2 a ha b hb
  exact this xs [] List.Pairwise.nil
end

/-! ### Rules but the last do not ask for the order -/
theorem all_perm {α : Type} {xs ys : List α} (h : xs.Perm ys) (p : α → Bool) : xs.all p = ys.all p := by
  rw [Bool.eq_iff_iff, List.all_eq_true, List.all_eq_true]
  exact ⟨fun q x hx => q x (h.mem_iff.2 hx), fun q x hx => q x (h.mem_iff.1 hx)⟩
theorem perm_nsum {l l' : List Nat} (h : l.Perm l') : l.sum = l'.sum := by
  induction h with
  | nil => rfl
  | cons x _ ih => simp only [List.sum_cons, ih]
  | swap x y l => simp only [List.sum_cons]; omega
  | trans _ _ h1 h2 => exact h1.trans h2
theorem rule_perm (d : CoD) {xs ys : List ItD} (h : xs.Perm ys) (r : Nat) (hr : r < 7) : ruleB d xs ((r : Int) + 1) = ruleB d ys ((r : Int) + 1) := by
  have ho : ∀ nm, occN xs nm = occN ys nm := fun nm => perm_nsum (h.map _)
  have hc : ∀ nm, occC xs nm = occC ys nm := fun nm => perm_nsum (h.map _)
  have hw : repW d xs = repW d ys := by funext nm; unfold repW; rw [ho, hc]
  have hf : (fun f : Nat => decide ((famCnt d xs f : Int) ≤ d.2.1.getD f 0)) = fun f : Nat => decide ((famCnt d ys f : Int) ≤ d.2.1.getD f 0) := by
    funext f
    rw [show famCnt d xs f = famCnt d ys f from (h.filter _).length_eq]
  rcases (show r = 0 ∨ r = 1 ∨ r = 2 ∨ r = 3 ∨ r = 4 ∨ r = 5 ∨ r = 6 by omega) with rfl | rfl | rfl | rfl | rfl | rfl | rfl
  · show decide (0 < (xs.length : Int)) = decide (0 < (ys.length : Int))
    rw [h.length_eq]
  · exact all_perm h _
  · exact all_perm h _
  · exact all_perm h _
  · show (decide ((twoN xs : Int) ≤ 3) && decide ((threeN xs : Int) ≤ 1)) = (decide ((twoN ys : Int) ≤ 3) && decide ((threeN ys : Int) ≤ 1))
    rw [show twoN xs = twoN ys from (h.filter _).length_eq, show threeN xs = threeN ys from (h.filter _).length_eq]
  · show (List.range 5).all (fun f : Nat => decide ((famCnt d xs f : Int) ≤ d.2.1.getD f 0)) = (List.range 5).all (fun f : Nat => decide ((famCnt d ys f : Int) ≤ d.2.1.getD f 0))
    rw [hf]
  · show xs.all (fun x => x.1.all (repW d xs)) = ys.all (fun x => x.1.all (repW d ys))
    rw [hw]
    exact all_perm h _
theorem filt_early (p : ItD → Bool) (hp : ∀ x, p (earlyD x) = p x) (xs : List ItD) : ((xs.map earlyD).filter p).length = (xs.filter p).length := by
  rw [List.filter_map, List.length_map]
  congr 1
  exact List.filter_congr (fun x _ => hp x)
theorem all_early (p : ItD → Bool) (hp : ∀ x, p (earlyD x) = p x) (xs : List ItD) : (xs.map earlyD).all p = xs.all p := by
  rw [List.all_map]
  congr 1
  funext x
  exact hp x
theorem rule_early (d : CoD) (xs : List ItD) (r : Nat) (hr : r < 7) : ruleB d (xs.map earlyD) ((r : Int) + 1) = ruleB d xs ((r : Int) + 1) := by
  have ho : ∀ nm, occN (xs.map earlyD) nm = occN xs nm := fun nm => by unfold occN; rw [List.map_map]; rfl
  have hc : ∀ nm, occC (xs.map earlyD) nm = occC xs nm := fun nm => by unfold occC; rw [List.map_map]; rfl
  have hw : repW d (xs.map earlyD) = repW d xs := by funext nm; unfold repW; rw [ho, hc]
  have hf : (fun f : Nat => decide ((famCnt d (xs.map earlyD) f : Int) ≤ d.2.1.getD f 0)) = fun f : Nat => decide ((famCnt d xs f : Int) ≤ d.2.1.getD f 0) := by
    funext f
    rw [show famCnt d (xs.map earlyD) f = famCnt d xs f from filt_early (fun x => famI d x == (f : Int)) (fun x => rfl) xs]
  rcases (show r = 0 ∨ r = 1 ∨ r = 2 ∨ r = 3 ∨ r = 4 ∨ r = 5 ∨ r = 6 by omega) with rfl | rfl | rfl | rfl | rfl | rfl | rfl
  · show decide (0 < ((xs.map earlyD).length : Int)) = decide (0 < (xs.length : Int))
    rw [List.length_map]
  · exact all_early (knownI d.1) (fun x => rfl) xs
  · exact all_early (fun x => x.2.1.all (inB 0 0)) (fun x => rfl) xs
  · exact all_early (fun x => x.1.all (jumpN d x)) (fun x => rfl) xs
  · show (decide ((twoN (xs.map earlyD) : Int) ≤ 3) && decide ((threeN (xs.map earlyD) : Int) ≤ 1)) = (decide ((twoN xs : Int) ≤ 3) && decide ((threeN xs : Int) ≤ 1))
    rw [show twoN (xs.map earlyD) = twoN xs from filt_early combI (fun x => rfl) xs, show threeN (xs.map earlyD) = threeN xs from filt_early (fun x => decide (2 < x.1.length)) (fun x => rfl) xs]
  · show (List.range 5).all (fun f : Nat => decide ((famCnt d (xs.map earlyD) f : Int) ≤ d.2.1.getD f 0)) = (List.range 5).all (fun f : Nat => decide ((famCnt d xs f : Int) ≤ d.2.1.getD f 0))
    rw [hf]
  · show (xs.map earlyD).all (fun x => x.1.all (repW d (xs.map earlyD))) = xs.all (fun x => x.1.all (repW d xs))
    rw [hw]
    exact all_early (fun x => x.1.all (repW d xs)) (fun x => rfl) xs
theorem late_early (xs : List ItD) : (lateL xs).map earlyD = xs.map earlyD := by
  refine List.ext_getElem (by simp [lateL_len]) (fun i hi hj => ?_)
  simp only [List.length_map] at hi hj
  rw [List.getElem_map, List.getElem_map]
  have h := lateL_at xs i hj
  rw [List.getElem?_eq_getElem hi, Option.some.injEq] at h
  rw [h]
  rfl
theorem late_late (xs : List ItD) : lateB (lateL xs) = true := by
  unfold lateB
  rw [List.all_eq_true]
  intro i hi
  rw [List.mem_range, lateL_len] at hi
  have h := lateL_at xs i hi
  rw [getD_some h, lateL_len]
  simp [lateD]
theorem late_same {xs : List ItD} (h : lateB xs = true) : lateL xs = xs := by
  unfold lateB at h
  rw [List.all_eq_true] at h
  refine List.ext_getElem (lateL_len xs) (fun i hi hj => ?_)
  have h1 := lateL_at xs i hj
  rw [List.getElem?_eq_getElem hi, Option.some.injEq] at h1
  have h2 := h i (List.mem_range.2 hj)
  rw [List.getD_eq_getElem?_getD, List.getElem?_eq_getElem hj, Option.getD_some, beq_iff_eq] at h2
  rw [h1]
  unfold lateD
  rw [← h2]
theorem order_rule (d : CoD) (xs : List ItD) (r : Nat) (hr : r < 7) : ruleB d (orderL d xs) ((r : Int) + 1) = ruleB d xs ((r : Int) + 1) := by
  rw [← rule_early d (orderL d xs) r hr]
  unfold orderL
  rw [late_early, rule_early d _ r hr, rule_perm d (sortS_perm _ _) r hr, rule_early d xs r hr]
/-- The order for late items is a programme. -/
theorem order_prog {d : CoD} {xs : List ItD} (h : progB d xs = true) : progB d (orderL d xs) = true := by
  have hc := progB_code h
  unfold progB
  rw [hc.1, itemsB_order hc.2]
  have : (brokenF d (orderL d xs)).length = 0 := brokenF_nil.2 (fun r hr => by
    by_cases e : r = 7
    · subst e
      show lateB (orderL d xs) = true
      exact late_late _
    · rw [order_rule d xs r (by omega)]
      exact progB_rule h r hr)
  rw [this]
  rfl

/-! ### The bonus of the later half -/
def bonG (d : CoD) (w : Int) : Int := roundI (w * (100 + d.2.2.2.1)) 100 - w
theorem bonG_up {d : CoD} (hd : CodeOk d) {a b : Int} (h : a ≤ b) : bonG d a ≤ bonG d b := by
  have hb := hd.bon
  unfold bonG roundI
  have e : b * (100 + d.2.2.2.1) = a * (100 + d.2.2.2.1) + (b - a) * (100 + d.2.2.2.1) := by rw [← Int.add_mul]; congr 1; omega
  have h1 : (b - a) * 100 ≤ (b - a) * (100 + d.2.2.2.1) := Int.mul_le_mul_of_nonneg_left (by omega) (by omega)
  rw [e]
  generalize a * (100 + d.2.2.2.1) = A at *
  generalize (b - a) * (100 + d.2.2.2.1) = B at *
  omega
theorem full_late (d : CoD) (n i : Nat) (x : ItD) : fullF d (lateD n i x) = wSum d x + if n - i ≤ n / 2 then bonG d (wSum d x) else 0 := by
  unfold fullF bonG lateD wSum
  show (if decide ((n : Int) ≤ 2 * (i : Int)) = true then roundI ((worthsF d x).sum * (100 + d.2.2.2.1)) 100 else (worthsF d x).sum) = _
  by_cases h : n - i ≤ n / 2
  · rw [if_pos h, if_pos (by simp; omega)]; omega
  · rw [if_neg h, if_neg (by simp; omega)]; omega
theorem sumR_tail (ys : List Int) (m : Nat) : ∀ k, k ≤ ys.length → sumR k (fun i => if ys.length - i ≤ m then ys.getD i 0 else 0) = tailS ys m k := by
  intro k
  induction k with
  | zero => intro _; rw [tailS_zero]; rfl
  | succ k ih => intro hk; rw [sumR_succ, ih (by omega), tailS_succ ys m k (by omega)]
theorem sumR_list (ys : List Int) : ∀ k, k ≤ ys.length → sumR k (fun i => ys.getD i 0) = (ys.take k).sum := by
  intro k
  induction k with
  | zero => intro _; simp [sumR]
  | succ k ih => intro hk; rw [sumR_succ, ih (by omega), sum_take ys k (by omega)]
theorem sumR_congr (n : Nat) {f g : Nat → Int} (h : ∀ i, i < n → f i = g i) : sumR n f = sumR n g := by
  have h1 := sumR_le n (f := f) (g := g) (fun i hi => by rw [h i hi]; exact Int.le_refl _)
  have h2 := sumR_le n (f := g) (g := f) (fun i hi => by rw [h i hi]; exact Int.le_refl _)
  omega
/-- What a list is worth with its later half late. -/
theorem late_sum (d : CoD) (xs : List ItD) : ((lateL xs).map (fullF d)).sum = (xs.map (wSum d)).sum + (((xs.map (wSum d)).map (bonG d)).drop (xs.length - xs.length / 2)).sum := by
  have e1 : ((lateL xs).map (fullF d)).sum = sumR xs.length (fun i => wSum d (xs.getD i noItem) + if xs.length - i ≤ xs.length / 2 then bonG d (wSum d (xs.getD i noItem)) else 0) := by
    unfold lateL sumR
    rw [List.map_map]
    congr 1
    refine List.map_congr_left (fun i _ => ?_)
    exact full_late d _ i _
  have g1 : ∀ i, i < xs.length → (xs.map (wSum d)).getD i 0 = wSum d (xs.getD i noItem) := fun i hi => by
    rw [List.getD_eq_getElem?_getD, List.getD_eq_getElem?_getD, List.getElem?_map, List.getElem?_eq_getElem hi]; rfl
  have g2 : ∀ i, i < xs.length → ((xs.map (wSum d)).map (bonG d)).getD i 0 = bonG d (wSum d (xs.getD i noItem)) := fun i hi => by
    rw [List.getD_eq_getElem?_getD, List.getD_eq_getElem?_getD, List.getElem?_map, List.getElem?_map, List.getElem?_eq_getElem hi]; rfl
  rw [e1, sumR_add]
  congr 1
  · rw [sumR_congr xs.length (g := fun i => (xs.map (wSum d)).getD i 0) (fun i hi => (g1 i hi).symm), sumR_list _ _ (by simp), List.take_of_length_le (by simp)]
  · have hl : ((xs.map (wSum d)).map (bonG d)).length = xs.length := by simp
    have h := sumR_tail ((xs.map (wSum d)).map (bonG d)) (xs.length / 2) xs.length (by rw [hl]; exact Nat.le_refl _)
    rw [hl] at h
    rw [sumR_congr xs.length (g := fun i => if xs.length - i ≤ xs.length / 2 then ((xs.map (wSum d)).map (bonG d)).getD i 0 else 0) (fun i hi => by rw [g2 i hi]), h]
    unfold tailS
    rw [hl, List.take_of_length_le (by rw [hl]; exact Nat.le_refl _)]
theorem early_full (d : CoD) (x : ItD) : fullF d (earlyD x) = wSum d x := rfl
/-- The order for late items is worth no less. -/
theorem order_ge {d : CoD} {xs : List ItD} (h : progB d xs = true) : (basesF d xs).sum ≤ (basesF d (orderL d xs)).sum := by
  have hp := progP h
  have hd := codeB_ok hp.cd
  rw [bases_full hp, bases_full (progP (order_prog h))]
  obtain ⟨zs, hz⟩ : ∃ zs, zs = sortS (ltF d) (xs.map earlyD) := ⟨_, rfl⟩
  have hpm : zs.Perm (xs.map earlyD) := by rw [hz]; exact sortS_perm _ _
  have hup : zs.Pairwise (fun x y => fullF d x ≤ fullF d y) := by rw [hz]; exact sortS_up (fullF d) _
  have e0 : xs.map (fullF d) = (lateL xs).map (fullF d) := by rw [late_same hp.lt]
  have e1 : orderL d xs = lateL zs := by rw [hz]; rfl
  have hl : zs.length = xs.length := by rw [hpm.length_eq, List.length_map]
  have hw : (zs.map (wSum d)).Perm (xs.map (wSum d)) := by
    have := hpm.map (wSum d)
    rw [List.map_map] at this
    exact this
  have hwf : ∀ z ∈ zs, fullF d z = wSum d z := fun z hz1 => by
    obtain ⟨x, _, rfl⟩ := List.mem_map.1 (hpm.mem_iff.1 hz1)
    rfl
  have hs : ((zs.map (wSum d)).map (bonG d)).Pairwise (· ≤ ·) := by
    rw [List.pairwise_map, List.pairwise_map]
    refine List.Pairwise.imp_of_mem (fun {a b} ha hb hab => ?_) hup
    rw [hwf a ha, hwf b hb] at hab
    exact bonG_up hd hab
  rw [e0, e1, late_sum, late_sum, perm_sum hw, hl]
  have := drop_le (a := (xs.map (wSum d)).map (bonG d)) (b := (zs.map (wSum d)).map (bonG d)) (hw.symm.map _) hs (xs.length - xs.length / 2)
  omega

/-! ### The best replacement -/
theorem brStep_max (d : CoD) (xs : List ItD) (k : Nat) (s : BrS) (i : Nat) : s.2.2 ≤ (brStep d xs k s i).2.2 ∧ ∀ g, gainR d xs k (d.1.getD i noEl).1 = (g, true) → g ≤ (brStep d xs k s i).2.2 := by
  unfold brStep
  split
  · next h =>
    simp only [Bool.and_eq_true, decide_eq_true_eq] at h
    refine ⟨by show s.2.2 ≤ (gainR d xs k (d.1.getD i noEl).1).1; omega, fun g hg => ?_⟩
    show g ≤ (gainR d xs k (d.1.getD i noEl).1).1
    rw [hg]
    exact Int.le_refl _
  · next h =>
    refine ⟨Int.le_refl _, fun g hg => ?_⟩
    rw [hg] at h
    simp at h
    omega
theorem brRow_max (d : CoD) (xs : List ItD) (k : Nat) (s : BrS) (m : Nat) : s.2.2 ≤ (brRow d xs k s m).2.2 ∧ ∀ i, i < m → ∀ g, gainR d xs k (d.1.getD i noEl).1 = (g, true) → g ≤ (brRow d xs k s m).2.2 := by
  induction m with
  | zero => exact ⟨Int.le_refl _, fun i hi => absurd hi (by omega)⟩
  | succ m ih =>
    rw [brRow_succ]
    have h := brStep_max d xs k (brRow d xs k s m) m
    refine ⟨Int.le_trans ih.1 h.1, fun i hi g hg => ?_⟩
    by_cases e : i = m
    · subst e; exact h.2 g hg
    · exact Int.le_trans (ih.2 i (by omega) g hg) h.1
theorem brAll_max (d : CoD) (xs : List ItD) (n : Nat) : ∀ k, k < n → ∀ i, i < d.1.length → ∀ g, gainR d xs k (d.1.getD i noEl).1 = (g, true) → g ≤ (brAll d xs n).2.2 := by
  induction n with
  | zero => exact fun k hk => absurd hk (by omega)
  | succ n ih =>
    intro k hk i hi g hg
    rw [brAll_succ]
    have h := brRow_max d xs n (brAll d xs n) d.1.length
    by_cases e : k = n
    · subst e; exact h.2 i hi g hg
    · exact Int.le_trans (ih k (by omega) i hi g hg) h.1
def BrIs (d : CoD) (xs : List ItD) (s : BrS) : Prop := s.2.2 = 0 ∨ ∃ k i : Nat, s.1 = k ∧ s.2.1 = i ∧ k < xs.length ∧ i < d.1.length ∧ gainR d xs k (d.1.getD i noEl).1 = (s.2.2, true)
theorem brRow_is {d : CoD} {xs : List ItD} {k : Nat} {s : BrS} (h : BrIs d xs s) (hk : k < xs.length) : ∀ m, m ≤ d.1.length → BrIs d xs (brRow d xs k s m) := by
  intro m
  induction m with
  | zero => exact fun _ => h
  | succ m ih =>
    intro hm
    rw [brRow_succ]
    unfold brStep
    split
    · next hc =>
      simp only [Bool.and_eq_true, decide_eq_true_eq] at hc
      exact .inr ⟨k, m, rfl, rfl, hk, by omega, by rw [← hc.1]⟩
    · exact ih (by omega)
theorem brAll_is (d : CoD) (xs : List ItD) : ∀ n, n ≤ xs.length → BrIs d xs (brAll d xs n) := by
  intro n
  induction n with
  | zero => exact fun _ => .inl rfl
  | succ n ih => intro hn; rw [brAll_succ]; exact brRow_is (ih (by omega)) (by omega) _ (Nat.le_refl _)
theorem gain_le_best {d : CoD} {xs : List ItD} {k g : Int} {nm : List UInt8} (h : gainF d xs k nm = (g, true)) (hg : 0 < g) : (bestReplF d xs).2.2.2 = true ∧ g ≤ (bestReplF d xs).2.2.1 := by
  unfold gainF at h
  split at h
  · next hc =>
    simp only [Bool.and_eq_true] at hc
    have hk : 0 ≤ k ∧ k ≤ (xs.length : Int) - 1 := by have := hc.1.2; simpa only [inB, Bool.and_eq_true, decide_eq_true_eq] using this
    have hp := hc.1.1
    have hf := repl_known (d := d) (xs := xs) (k := k.toNat) (nm := nm) (by omega) hc.2
    have hn := find_name (progB_code hp).1 hf
    have hl := findF_lt d.1 nm
    have hm := brAll_max d xs xs.length k.toNat (by omega) (findF d.1 nm).toNat (by omega) g (by
      rw [hn.2]
      unfold gainR
      rw [if_pos hc.2]
      exact h)
    unfold bestReplF
    rw [if_pos hp]
    exact ⟨by show decide _ = true; rw [decide_eq_true_eq]; omega, hm⟩
  · simp at h
theorem best_is {d : CoD} {xs : List ItD} (h : (bestReplF d xs).2.2.2 = true) : progB d xs = true ∧ 1 ≤ (bestReplF d xs).2.2.1 ∧ ∃ k i : Nat, (bestReplF d xs).1 = k ∧ (bestReplF d xs).2.1 = i ∧ k < xs.length ∧ i < d.1.length ∧ progB d (replL xs k (d.1.getD i noEl).1) = true ∧ gainF d xs k (d.1.getD i noEl).1 = ((bestReplF d xs).2.2.1, true) ∧ (bestReplF d xs).2.2.1 = gainV d xs (replL xs k (d.1.getD i noEl).1) := by
  unfold bestReplF at h ⊢
  split at h
  · next hp =>
    rw [if_pos hp]
    have h0 : 0 < (brAll d xs xs.length).2.2 := of_decide_eq_true h
    refine ⟨hp, by show 1 ≤ (brAll d xs xs.length).2.2; omega, ?_⟩
    rcases brAll_is d xs xs.length (Nat.le_refl _) with e | ⟨k, i, e1, e2, hk, hi, e3⟩
    · omega
    · have hr := e3
      unfold gainR at hr
      split at hr
      · next hq =>
        refine ⟨k, i, e1, e2, hk, hi, hq, ?_, ?_⟩
        · rw [gainF_R _ hp hk]; exact e3
        · exact (congrArg Prod.fst hr).symm
      · simp at hr
  · simp at h
/-- The best replacement keeps within the bound. -/
theorem best_bound {d : CoD} {xs : List ItD} (h : (bestReplF d xs).2.2.2 = true) : (basesF d xs).sum + (bestReplF d xs).2.2.1 ≤ (planF d xs.length).1 := by
  obtain ⟨hp, _, k, i, _, _, _, _, hq, _, e⟩ := best_is h
  have hb := (prog_bound hq).2
  rw [replL_len] at hb
  rw [e]
  unfold gainV
  omega
end Go.Proofs.YtegoapdbpfhkiaaGreat

/- What was drawn, read; what the laws on replacements call, over it. -/
namespace Go.Proofs.YtegoapdbpfhkiaaGreat
open Go.RowKit Go.Sort
set_option linter.unusedVariables false

/-- A code and a list of items, read in every later world. -/
structure Dw (w1 : World) (v : Value) (A : Option Addr) (c : Nat) (d : CoD) (xs : List ItD) : Prop where
  rd : kC.rd w1 v d
  ok : kC.ok d
  lr : LR kdItem w1 w1.heap.size A c xs
  wt : wtL kdItem xs ≤ 1048576
theorem Dw.ext {w1 w2 : World} {v : Value} {A : Option Addr} {c : Nat} {d : CoD} {xs : List ItD} (h : Dw w1 v A c d xs) (k : Ext w1 w2) : Dw w2 v A c d xs := ⟨kC.rd_ext h.rd k, h.ok, (h.lr.ext k (Nat.le_refl _)).more k.size, h.wt⟩
theorem dw_of {lo : Nat} {w : World} {v : Value} {A : Option Addr} {n c : Nat} (hc : CoR lo w v) (hl : LsR lo w A n c) : ∃ d xs, Dw w v A c d xs ∧ xs.length = n := by
  obtain ⟨d, h1, h2⟩ := hc
  obtain ⟨xs, h3, h4, _, h5⟩ := hl
  exact ⟨d, xs, ⟨h2 w (Since.refl _ _), h1, h5 w (Since.refl _ _), h4⟩, h3⟩
theorem Dw.kit {w : World} {v : Value} {A : Option Addr} {c : Nat} {d : CoD} {xs : List ItD} (h : Dw w v A c d xs) : kIt.rd w (.slice A xs.length c) xs := ⟨_, rfl, ⟨A, c, rfl, h.lr⟩⟩
theorem Dw.cap {w : World} {v : Value} {A : Option Addr} {c : Nat} {d : CoD} {xs : List ItD} (h : Dw w v A c d xs) : xs.length ≤ c ∧ c ≤ 9223372036854775807 := ⟨h.lr.1, h.lr.2.1⟩
theorem kC.lr1 {w : World} {A1 A2 : Option Addr} {n1 c1 n2 c2 : Nat} {r bo k f : Int} {d : CoD} (h : kC.rd w (.agg #[.slice A1 n1 c1, .slice A2 n2 c2, .int .i64 r, .int .i64 bo, .int .i64 k, .int .i64 f]) d) :
    n1 = d.1.length ∧ LR kdEl w w.heap.size A1 c1 d.1 ∧ n2 = d.2.1.length ∧ LR kdInt w w.heap.size A2 c2 d.2.1 := by
  obtain ⟨Ac, cc, Al, cl, hv, h1, h2⟩ := kC.lr h
  simp only [Value.agg.injEq, Array.mk.injEq, List.cons.injEq, Value.slice.injEq, and_true] at hv
  obtain ⟨⟨rfl, rfl, rfl⟩, ⟨rfl, rfl, rfl⟩, _⟩ := hv
  exact ⟨rfl, h1, rfl, h2⟩
section
variable {w : World} {v : Value} {A : Option Addr} {c N : Nat} {d : CoD} {xs : List ItD}
theorem Dw.iOrd (h : Dw w v A c d xs) (hN : xs.length = N) : Calls Tryz.prog 22 #[v, .slice A N c] w fun e w' => ∃ A' n' c', e = .returned (.tuple #[.slice A' n' c', .bool (orderF d xs).2]) ∧ (orderF d xs).1.length = n' ∧ Dw w' v A' c' d (orderF d xs).1 ∧ Ext w w' := by
  subst hN
  refine (i.OrderForLate_law w v _ d xs h.rd h.ok h.kit h.wt).mono ?_
  rintro e w' ⟨v0, rfl, hf, hok, hx⟩
  obtain ⟨A', c', rfl, hl⟩ := kIt.lr (kIt.fr_rd hf)
  exact ⟨A', _, c', rfl, rfl, ⟨kC.rd_ext h.rd hx, h.ok, hl, hok⟩, hx⟩
theorem Dw.iProg (h : Dw w v A c d xs) (hN : xs.length = N) : Calls Tryz.prog 20 #[v, .slice A N c] w fun e w' => e = .returned (.tuple #[.bool (progLaw d xs).1, .bool (progLaw d xs).2]) ∧ Ext w w' := by
  subst hN
  exact i.IsProgramme_c w v d A c xs h.rd h.ok h.lr h.wt

theorem Dw.iPB (h : Dw w v A c d xs) (hN : xs.length = N) : Calls Tryz.prog 21 #[v, .slice A N c] w fun e w' => e = .returned (.tuple #[.int .i64 (pbaseLaw d xs).1, .bool (pbaseLaw d xs).2]) ∧ Ext w w' := by
  subst hN
  exact i.ProgrammeBase_c w v d A c xs h.rd h.ok h.lr h.wt
theorem Dw.iBound (h : Dw w v A c d xs) (n : Nat) (hn : n ≤ 1048576) : Calls Tryz.prog 13 #[v, .int .i64 n] w fun e w' => e = .returned (.tuple #[.int .i64 (planF d n).1, .bool (planF d n).2]) ∧ Ext w w' :=
  i.PlanBound_law w v d n h.rd h.ok (by unfold InR; omega)
end
theorem Dw.same {w : World} {v v' : Value} {A A' : Option Addr} {c c' N : Nat} {d d' : CoD} {xs : List ItD} (h : Dw w v A c d xs) (h' : Dw w v' A' c' d' xs) (hN : xs.length = N) : Calls Tryz.prog 18 #[.slice A N c, .slice A' N c'] w fun e w' => e = .returned (.bool true) ∧ Ext w w' := by
  subst hN
  exact l.qItems_same w A A' c c' _ _ xs h.lr h'.lr (Nat.le_refl _) (Nat.le_refl _) h.wt

/-! ### What the laws need to know -/
theorem prog_good {d : CoD} {xs : List ItD} (h : progB d xs = true) : goodB d xs = true := by
  unfold goodB
  rw [(progB_code h).1, (progB_code h).2, progB_known h]
  rfl
theorem prog_base {d : CoD} {xs : List ItD} (h : progB d xs = true) : pbaseLaw d xs = ((basesF d xs).sum, true) := by
  unfold pbaseLaw
  rw [prog_good h]
  rfl
theorem prog_law {d : CoD} {xs : List ItD} (h : progB d xs = true) : progLaw d xs = (true, true) := by
  unfold progLaw
  rw [(progB_code h).1, (progB_code h).2, h]
  rfl
theorem prog_sum {d : CoD} {xs : List ItD} (h : progB d xs = true) : 0 ≤ (basesF d xs).sum ∧ (basesF d xs).sum ≤ 140000 := bases_sum (codeB_ok (progB_code h).1) (progB_ls h)
theorem order_yes {d : CoD} {xs : List ItD} (h : (orderF d xs).2 = true) : progB d xs = true ∧ (orderF d xs).1 = orderL d xs := by
  unfold orderF at h ⊢
  split at h
  · next hp => rw [if_pos hp]; exact ⟨hp, rfl⟩
  · simp at h
theorem order_of {d : CoD} {xs : List ItD} (h : progB d xs = true) : (orderF d xs).2 = true := by
  unfold orderF
  rw [if_pos h]
theorem elB_name {x : ElD} (h : elB x = true) : x.1.length ≤ 16 := by
  simp only [elB, nameB, inB, Bool.and_eq_true, decide_eq_true_eq] at h
  omega
/-- Where the best replacement is one: its numbers. -/
theorem best_nums {d : CoD} {xs : List ItD} (h : (bestReplF d xs).2.2.2 = true) : ∃ (k i : Nat) (x : ElD), (bestReplF d xs).1 = k ∧ (bestReplF d xs).2.1 = i ∧ k < xs.length ∧ d.1[i]? = some x ∧ x.1.length ≤ 16 ∧ gainF d xs k x.1 = ((bestReplF d xs).2.2.1, true) ∧ 1 ≤ (bestReplF d xs).2.2.1 ∧ (bestReplF d xs).2.2.1 ≤ 140000 ∧ (basesF d xs).sum + (bestReplF d xs).2.2.1 ≤ (planF d xs.length).1 := by
  obtain ⟨hp, h1, k, i, e1, e2, hk, hi, hq, hg, hv⟩ := best_is h
  have hb := best_bound h
  have e : d.1.getD i noEl = d.1[i] := by rw [List.getD_eq_getElem?_getD, List.getElem?_eq_getElem hi]; rfl
  rw [e] at hg hq hv
  have s1 := prog_sum hp
  have s2 := prog_sum hq
  refine ⟨k, i, d.1[i], e1, e2, hk, List.getElem?_eq_getElem hi, elB_name ((codeB_ok (progB_code hp).1).els i _ (List.getElem?_eq_getElem hi)), hg, h1, ?_, hb⟩
  rw [hv]
  unfold gainV
  omega
end Go.Proofs.YtegoapdbpfhkiaaGreat
