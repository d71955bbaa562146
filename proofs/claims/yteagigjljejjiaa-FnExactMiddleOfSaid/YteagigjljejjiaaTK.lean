import Derived.Test.YteagigjljejjiaaTJ
import Derived.Test.YteagigjljejjiaaShSort
namespace Go.Proofs.Yteagigjljejjiaa
open Go.RowKit Go.Sort
set_option linter.unusedVariables false

def sortA (zs : List Int) : List Int := zs.mergeSort fun x y => decide (x ≤ y)
theorem sortA_eq (zs : List Int) : sortA zs = (sortD zs).reverse := by
  have h1 : (sortA zs).Pairwise (fun x y => x ≤ y) := by
    have := List.pairwise_mergeSort (le := fun x y : Int => decide (x ≤ y)) (fun a b c h1 h2 => by simp at h1 h2 ⊢; omega) (fun a b => by simp; omega) zs
    exact this.imp (by simp)
  have h2 : (sortD zs).reverse.Pairwise (fun x y => x ≤ y) := by
    rw [List.pairwise_reverse]
    exact (sortD_sorted zs).imp (by simp)
  have h3 : (sortA zs).Perm (sortD zs).reverse := (List.mergeSort_perm zs _).trans ((sortD_perm zs).symm.trans (List.reverse_perm _).symm)
  exact h3.eq_of_pairwise (fun a b _ _ h1 h2 => by omega) h1 h2

theorem Own.holds {e : TypeId} {w : World} {lo n c g : Nat} {zs : List Int} (h : OwnI e w lo (some ⟨g, 0, none⟩) n c zs) : Holds (Value.int .i64) w g 0 zs.toArray := by
  intro j hj
  have hl := h.len
  have hj' : j < n := by simpa [hl] using hj
  refine ⟨?_, by rw [Nat.zero_add]; exact h.free j⟩
  rw [Nat.zero_add, h.cell j hj']
  have : j < zs.length := by omega
  simp [this]

set_option maxHeartbeats 400000 in
theorem i.sortedInts_any (A : Option Addr) (n c B : Nat) (zs : List Int) (w : World) (h : SlI w B A n zs) (hB : B ≤ w.heap.size) (hn : n ≤ 1048576) (h0 : 0 < n) :
    Calls Try.prog 66 #[.slice A n c] w fun e w' => ∃ A' c', e = .returned (.slice A' n c') ∧ SlI w' w'.heap.size A' n (sortD zs).reverse ∧ Ext w w' := by
  have hl := hide h.len
  have hsl : Hid ((sortA zs).length = n) := by show _ = _; rw [← hl.out]; exact (List.mergeSort_perm zs _).length_eq
  go_enter Try.func66, Try.ntmps66
  go_wp2_with fail
  refine (i.copyInts_any _ _ _ _ zs _ h hB hn).mono ?_
  rintro e w1 ⟨A', c', rfl, hown, hx⟩
  obtain ⟨g, rfl, hg1, hg2, hg3⟩ := hown.pos h0
  have HO := hide hown
  have HX := hide hx
  clear hown hx h
  go_wp2_with fail
  have hc := slices_Sort_int g 0 c' zs w1 (Own.holds HO.out) hg2 (by have := hl.out; omega)
  rw [hl.out, show (zs.mergeSort fun x y => decide (x ≤ y)) = sortA zs from rfl] at hc
  refine hc.mono ?_
  rintro e w2 ⟨rfl, m, os, rfl⟩
  have HS : Hid (SlI (grow (putRow (Value.int .i64) (Sort.ahead w1 m) g 0 (sortA zs).toArray) os) (w1.heap.size) (some ⟨g, 0, none⟩) n (sortA zs)) := by
    refine ⟨by simp [hsl.out], fun _ => ⟨g, 0, rfl, hg2, fun k u hu => ?_⟩⟩
    have hk : k < (sortA zs).length := by simpa using (List.getElem?_eq_some_iff.1 hu).1
    rw [cell?_grow _ _ _ (by simpa using hg2)]
    rw [cell?_putRow (Value.int .i64) (Sort.ahead w1 m) g 0 zs.toArray (sortA zs).toArray (holds_ahead _ _ _ _ _ _ (Own.holds HO.out)) (by simp [hsl.out, hl.out]) k (by simpa using hk)]
    rw [List.getElem?_map, List.getElem?_eq_getElem hk] at hu
    simp at hu
    rw [← hu]
    simp [hk]
  have HB : Hid (Ext w (grow (putRow (Value.int .i64) (Sort.ahead w1 m) g 0 (sortA zs).toArray) os)) := by
    refine Below.trans HX.out ⟨rfl, rfl, rfl, by simp [grow, Sort.ahead], fun k hk => ?_⟩
    have hk' : k < w1.heap.size := Nat.lt_of_lt_of_le hk HX.out.size
    have hkg : k ≠ g := by omega
    simp only [grow, putRow, mapBlock, Sort.ahead]
    rw [Array.getElem?_append_left (by simpa using hk')]
    rw [Array.getElem?_modify]
    simp
    omega
  have HZ : Hid (w1.heap.size ≤ (grow (putRow (Value.int .i64) (Sort.ahead w1 m) g 0 (sortA zs).toArray) os).heap.size) := by
    show _ ≤ _
    simp [grow, Sort.ahead]
  generalize grow (putRow (Value.int .i64) (Sort.ahead w1 m) g 0 (sortA zs).toArray) os = w2 at *
  go_wp2
  go_ret
  refine ⟨_, _, rfl, ?_, HB.out⟩
  rw [← sortA_eq]
  exact HS.out.more HZ.out

theorem quiet_of_d {P : Program} {f : FuncId} {args : Array Value} {w : World} {n : Nat} {v : Value}
    (h : Calls P f args (w.drewN n) fun e w' => e = .returned v ∧ ∃ m, w' = (w.drewN n).drewN m) : Calls P f args (w.drewN n) fun e w'' => e = .returned v ∧ ∃ m, w'' = w.drewN m :=
  h.mono fun _ _ ⟨he, m, hm⟩ => ⟨he, n + m, by rw [hm, World.drewN_drewN]⟩

def orderOfF (zs : List Int) (k : Int) : Int × Bool := if hasMark zs k then ((sortD zs).reverse.getD k.toNat 0, true) else (0, false)
def midD (zs : List Int) : Int := (sortD zs).reverse.getD ((zs.length - 1) / 2) 0 + (sortD zs).reverse.getD (zs.length / 2) 0
def middleOfF (zs : List Int) : Int × Int × Bool := if goodMarks zs then ((lowF (midD zs) 2).1, (lowF (midD zs) 2).2, true) else (0, 0, false)

/-- The marks in increasing order, by either make. -/
theorem i.order_c (A : Option Addr) (n c B : Nat) (zs : List Int) (w : World) (h : SlI w B A n zs) (hB : B ≤ w.heap.size) (hn : n ≤ 1048576) (h0 : 0 < n) :
    Calls Try.prog 66 #[.slice A n c] w fun e w' => ∃ A' c', e = .returned (.slice A' n c') ∧ SlI w' w'.heap.size A' n (sortD zs).reverse ∧ Ext w w' := i.sortedInts_any A n c B zs w h hB hn h0
theorem s.order_c (A : Option Addr) (n c B : Nat) (zs : List Int) (w : World) (h : SlI w B A n zs) (hB : B ≤ w.heap.size) (hn : n ≤ 1048576) (h0 : 0 < n) :
    Calls Try.prog 51 #[.slice A n c] w fun e w' => ∃ A' c', e = .returned (.slice A' n c') ∧ SlI w' w'.heap.size A' n (sortD zs).reverse ∧ Ext w w' :=
  (s.tmOrder_any A n c B zs w h hB hn).mono fun e w' ⟨A', c', he, ho, hx⟩ => ⟨A', c', he, ho.sl, hx⟩
theorem sort_mem_bd {zs : List Int} (h : goodMarks zs = true) (k : Nat) : -1000 ≤ (sortD zs).reverse.getD k 0 ∧ (sortD zs).reverse.getD k 0 ≤ 1000 := by
  by_cases hk : k < (sortD zs).reverse.length
  · have hm : (sortD zs).reverse[k] ∈ zs := (sortD_perm zs).mem_iff.1 (List.mem_reverse.1 (List.getElem_mem hk))
    have := (good_ok h).2.2.1 _ hm
    simpa [List.getElem?_eq_getElem hk] using this
  · rw [List.getD_eq_getElem?_getD, List.getElem?_eq_none (by omega)]
    simp

set_option maxHeartbeats 1000000 in
theorem i.OrderOf_law (w : World) (v : Value) (z0 : List Int) (k : Int) (h : kI.rd w v z0) (hok : kI.ok z0) (_h1 : InR k) :
    Calls Try.prog 37 #[v, .int .i64 k] w fun e w' => e = .returned (.tuple #[.int .i64 (orderOfF z0 k).1, .bool (orderOfF z0 k).2]) ∧ Ext w w' := by
  obtain ⟨A, c, rfl, h, hnc, hcm⟩ := h
  have hn : z0.length ≤ 1048576 := hok
  cases h1 : hasMark z0 k
  · have HF : Hid (orderOfF z0 k = (0, false)) := by show _ = _; simp [orderOfF, h1]
    rw [HF.out]
    go_enter Try.func37, Try.ntmps37
    go_wp2_with (go_at_call 46; refine (i.isMarkOf_any _ _ _ _ z0 _ _ h hn).mono ?_; rintro e w1 ⟨rfl, rfl⟩)
    go_ret2
    exact ⟨rfl, Ext.refl _⟩
  · obtain ⟨_, _, _, hk0, hk1⟩ := hasMark_ok h1
    obtain ⟨j, rfl⟩ := Int.eq_ofNat_of_zero_le hk0
    have hj : j < z0.length := by omega
    obtain ⟨x, hx⟩ : ∃ x, Hid ((sortD z0).reverse.getD j 0 = x) := ⟨_, rfl⟩
    have HF : Hid (orderOfF z0 (j : Int) = (x, true)) := by show _ = _; rw [← hx.out]; simp [orderOfF, h1]
    rw [HF.out]
    go_enter Try.func37, Try.ntmps37
    go_wp2_with (first | (go_at_call 46; refine (i.isMarkOf_any _ _ _ _ z0 _ _ h hn).mono ?_; rintro e w1 ⟨rfl, rfl⟩) | (go_at_call 66; refine (i.order_c _ _ _ _ z0 _ h (Nat.le_refl _) hn (by omega)).mono ?_; rintro e w1 ⟨S, c1, rfl, ho, hx1⟩; have HX := hide hx1; obtain ⟨b, off, rfl, hb, hc⟩ := ho.cells (by omega); have hck := hc j hj; rw [hx.out] at hck; clear ho hx1 hc))
    go_ret2
    exact ⟨rfl, HX.out⟩

set_option maxHeartbeats 1000000 in
theorem i.MiddleOf_law (w : World) (v : Value) (z0 : List Int) (h : kI.rd w v z0) (hok : kI.ok z0) :
    Calls Try.prog 39 #[v] w fun e w' => e = .returned (.tuple #[.int .i64 (middleOfF z0).1, .int .i64 (middleOfF z0).2.1, .bool (middleOfF z0).2.2]) ∧ Ext w w' := by
  obtain ⟨A, c, rfl, h, hnc, hcm⟩ := h
  have hn : z0.length ≤ 1048576 := hok
  cases h1 : goodMarks z0
  · have HF : Hid (middleOfF z0 = (0, 0, false)) := by show _ = _; simp [middleOfF, h1]
    rw [HF.out]
    go_enter Try.func39, Try.ntmps39
    go_wp2_with (go_at_call 16; refine (i.AreMarksOf_any _ _ _ _ z0 _ h hok).mono ?_; rintro e w1 ⟨rfl, rfl⟩)
    go_ret3
    exact ⟨rfl, Ext.refl _⟩
  · obtain ⟨g1, g2, _, _⟩ := good_ok h1
    obtain ⟨x, hx⟩ : ∃ x, Hid ((sortD z0).reverse.getD ((z0.length - 1) / 2) 0 = x) := ⟨_, rfl⟩
    obtain ⟨y, hy⟩ : ∃ y, Hid ((sortD z0).reverse.getD (z0.length / 2) 0 = y) := ⟨_, rfl⟩
    obtain ⟨bx1, bx2⟩ := sort_mem_bd h1 ((z0.length - 1) / 2)
    obtain ⟨by1, by2⟩ := sort_mem_bd h1 (z0.length / 2)
    rw [hx.out] at bx1 bx2
    rw [hy.out] at by1 by2
    have HF : Hid (middleOfF z0 = ((lowF (x + y) 2).1, (lowF (x + y) 2).2, true)) := by show _ = _; rw [← hx.out, ← hy.out]; simp [middleOfF, h1, midD]
    rw [HF.out]
    go_enter Try.func39, Try.ntmps39
    go_wp2_with (first | (go_at_call 16; refine (i.AreMarksOf_any _ _ _ _ z0 _ h hok).mono ?_; rintro e w1 ⟨rfl, rfl⟩) | (go_at_call 66; refine (i.order_c _ _ _ _ z0 _ h (Nat.le_refl _) hn (by omega)).mono ?_; rintro e w1 ⟨S, c1, rfl, ho, hx1⟩; have HO := hide ho; have HX := hide hx1; clear ho hx1))
    obtain ⟨b, off, rfl, hb, hc⟩ := HO.out.cells (by omega)
    have hck := hc ((z0.length - 1) / 2) (by omega)
    have hck' := hc (z0.length / 2) (by omega)
    rw [hx.out] at hck
    rw [hy.out] at hck'
    clear hc h1
    have n1 : 1 ≤ z0.length := by omega
    generalize z0.length = n at *
    have j0 : IntKind.i64.wrap ((n : Int) - 1) = (n : Int) - 1 := IntWalk.i64_in _ (by omega)
    have j1 : ((n : Int) - 1).tdiv 2 = (((n - 1) / 2 : Nat) : Int) := by rw [Int.tdiv_eq_ediv_of_nonneg (by omega)]; omega
    have j2 : (n : Int).tdiv 2 = ((n / 2 : Nat) : Int) := by rw [Int.tdiv_eq_ediv_of_nonneg (by omega)]; omega
    have j3 : IntKind.i64.wrap (((n - 1) / 2 : Nat) : Int) = (((n - 1) / 2 : Nat) : Int) := IntWalk.i64_in _ (by omega)
    have j4 : IntKind.i64.wrap ((n / 2 : Nat) : Int) = ((n / 2 : Nat) : Int) := IntWalk.i64_in _ (by omega)
    have j5 : (((n - 1) / 2 : Nat) : Int) < n := by omega
    have j6 : ((n / 2 : Nat) : Int) < n := by omega
    have j7 : IntKind.i64.wrap (x + y) = x + y := IntWalk.i64_in _ (by omega)
    generalize hP : (n - 1) / 2 = P at *
    generalize hQ : n / 2 = Q at *
    clear hP hQ
    go_wp2
    go_quiet ((go_at_call 57; exact quiet_of_d (i.lowestTerms_any _ _ _ (by omega) (by omega) (by omega) (by omega))))
    clear j0 j1 j2 j3 j4 j5 j6 j7
    go_wp2
    go_ret3
    exact ⟨rfl, HX.out.trans (Ext.drewN _ _)⟩

set_option maxHeartbeats 1000000 in
theorem s.OrderOf_law (w : World) (v : Value) (z0 : List Int) (k : Int) (h : kI.rd w v z0) (hok : kI.ok z0) (_h1 : InR k) :
    Calls Try.prog 36 #[v, .int .i64 k] w fun e w' => e = .returned (.tuple #[.int .i64 (orderOfF z0 k).1, .bool (orderOfF z0 k).2]) ∧ Ext w w' := by
  obtain ⟨A, c, rfl, h, hnc, hcm⟩ := h
  have hn : z0.length ≤ 1048576 := hok
  cases h1 : hasMark z0 k
  · have HF : Hid (orderOfF z0 k = (0, false)) := by show _ = _; simp [orderOfF, h1]
    rw [HF.out]
    go_enter Try.func36, Try.ntmps36
    go_wp2_with (go_at_call 43; refine (s.tmHas_any _ _ _ _ z0 _ _ h hn).mono ?_; rintro e w1 ⟨rfl, rfl⟩)
    go_ret2
    exact ⟨rfl, Ext.refl _⟩
  · obtain ⟨_, _, _, hk0, hk1⟩ := hasMark_ok h1
    obtain ⟨j, rfl⟩ := Int.eq_ofNat_of_zero_le hk0
    have hj : j < z0.length := by omega
    obtain ⟨x, hx⟩ : ∃ x, Hid ((sortD z0).reverse.getD j 0 = x) := ⟨_, rfl⟩
    have HF : Hid (orderOfF z0 (j : Int) = (x, true)) := by show _ = _; rw [← hx.out]; simp [orderOfF, h1]
    rw [HF.out]
    go_enter Try.func36, Try.ntmps36
    go_wp2_with (first | (go_at_call 43; refine (s.tmHas_any _ _ _ _ z0 _ _ h hn).mono ?_; rintro e w1 ⟨rfl, rfl⟩) | (go_at_call 51; refine (s.order_c _ _ _ _ z0 _ h (Nat.le_refl _) hn (by omega)).mono ?_; rintro e w1 ⟨S, c1, rfl, ho, hx1⟩; have HX := hide hx1; obtain ⟨b, off, rfl, hb, hc⟩ := ho.cells (by omega); have hck := hc j hj; rw [hx.out] at hck; clear ho hx1 hc))
    go_ret2
    exact ⟨rfl, HX.out⟩

set_option maxHeartbeats 1000000 in
theorem s.MiddleOf_law (w : World) (v : Value) (z0 : List Int) (h : kI.rd w v z0) (hok : kI.ok z0) :
    Calls Try.prog 38 #[v] w fun e w' => e = .returned (.tuple #[.int .i64 (middleOfF z0).1, .int .i64 (middleOfF z0).2.1, .bool (middleOfF z0).2.2]) ∧ Ext w w' := by
  obtain ⟨A, c, rfl, h, hnc, hcm⟩ := h
  have hn : z0.length ≤ 1048576 := hok
  cases h1 : goodMarks z0
  · have HF : Hid (middleOfF z0 = (0, 0, false)) := by show _ = _; simp [middleOfF, h1]
    rw [HF.out]
    go_enter Try.func38, Try.ntmps38
    go_wp2_with (go_at_call 40; refine (s.tmGood_any _ _ _ _ z0 _ h hok).mono ?_; rintro e w1 ⟨rfl, rfl⟩)
    go_ret3
    exact ⟨rfl, Ext.refl _⟩
  · obtain ⟨g1, g2, _, _⟩ := good_ok h1
    obtain ⟨x, hx⟩ : ∃ x, Hid ((sortD z0).reverse.getD ((z0.length - 1) / 2) 0 = x) := ⟨_, rfl⟩
    obtain ⟨y, hy⟩ : ∃ y, Hid ((sortD z0).reverse.getD (z0.length / 2) 0 = y) := ⟨_, rfl⟩
    obtain ⟨bx1, bx2⟩ := sort_mem_bd h1 ((z0.length - 1) / 2)
    obtain ⟨by1, by2⟩ := sort_mem_bd h1 (z0.length / 2)
    rw [hx.out] at bx1 bx2
    rw [hy.out] at by1 by2
    have HF : Hid (middleOfF z0 = ((lowF (x + y) 2).1, (lowF (x + y) 2).2, true)) := by show _ = _; rw [← hx.out, ← hy.out]; simp [middleOfF, h1, midD]
    rw [HF.out]
    go_enter Try.func38, Try.ntmps38
    go_wp2_with (first | (go_at_call 40; refine (s.tmGood_any _ _ _ _ z0 _ h hok).mono ?_; rintro e w1 ⟨rfl, rfl⟩) | (go_at_call 51; refine (s.order_c _ _ _ _ z0 _ h (Nat.le_refl _) hn (by omega)).mono ?_; rintro e w1 ⟨S, c1, rfl, ho, hx1⟩; have HO := hide ho; have HX := hide hx1; clear ho hx1))
    obtain ⟨b, off, rfl, hb, hc⟩ := HO.out.cells (by omega)
    have hck := hc ((z0.length - 1) / 2) (by omega)
    have hck' := hc (z0.length / 2) (by omega)
    rw [hx.out] at hck
    rw [hy.out] at hck'
    clear hc h1
    have n1 : 1 ≤ z0.length := by omega
    generalize z0.length = n at *
    have j0 : IntKind.i64.wrap ((n : Int) - 1) = (n : Int) - 1 := IntWalk.i64_in _ (by omega)
    have j1 : ((n : Int) - 1).tdiv 2 = (((n - 1) / 2 : Nat) : Int) := by rw [Int.tdiv_eq_ediv_of_nonneg (by omega)]; omega
    have j2 : (n : Int).tdiv 2 = ((n / 2 : Nat) : Int) := by rw [Int.tdiv_eq_ediv_of_nonneg (by omega)]; omega
    have j3 : IntKind.i64.wrap (((n - 1) / 2 : Nat) : Int) = (((n - 1) / 2 : Nat) : Int) := IntWalk.i64_in _ (by omega)
    have j4 : IntKind.i64.wrap ((n / 2 : Nat) : Int) = ((n / 2 : Nat) : Int) := IntWalk.i64_in _ (by omega)
    have j5 : (((n - 1) / 2 : Nat) : Int) < n := by omega
    have j6 : ((n / 2 : Nat) : Int) < n := by omega
    have j7 : IntKind.i64.wrap (x + y) = x + y := IntWalk.i64_in _ (by omega)
    generalize hP : (n - 1) / 2 = P at *
    generalize hQ : n / 2 = Q at *
    clear hP hQ
    go_wp2
    go_quiet ((go_at_call 56; exact quiet_of_d (s.poLowest_any _ _ _ (by omega) (by omega) (by omega) (by omega))))
    clear j0 j1 j2 j3 j4 j5 j6 j7
    go_wp2
    go_ret3
    exact ⟨rfl, HX.out.trans (Ext.drewN _ _)⟩
end Go.Proofs.Yteagigjljejjiaa
