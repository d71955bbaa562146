/- GH: EN, EO, EP, EQ, ER in one text. -/
import Derived.Test.YtaoeomgehpdedaaGreatRL
import Derived.Test.YtaoeomgehpdedaaGreatRX
import Derived.Deep.RegionLaw
import Derived.Deep.Quiet
/- What the laws on bases call: the program's and the reference's functions over a code and a list. -/
namespace Go.Proofs.YtaoeomgehpdedaaGreat
open Go.RowKit Go.Sort
set_option linter.unusedVariables false

def goodB (d : CoD) (xs : List ItD) : Bool := codeB d && itemsB xs && knownB d.1 xs
def basesLaw (d : CoD) (xs : List ItD) : List Int × Bool := if goodB d xs then (basesF d xs, true) else ([], false)
def knowsLaw (d : CoD) (xs : List ItD) : Bool × Bool := if codeB d && itemsB xs then (knownB d.1 xs, true) else (false, false)
theorem goodB_code {d : CoD} {xs : List ItD} (h : goodB d xs = true) : CodeOk d := by
  simp only [goodB, Bool.and_eq_true] at h
  exact codeB_ok h.1.1
theorem goodB_ls {d : CoD} {xs : List ItD} (h : goodB d xs = true) : LsOk d xs := by
  simp only [goodB, Bool.and_eq_true] at h
  exact lsOk h.1.2 h.2
end Go.Proofs.YtaoeomgehpdedaaGreat

/- What the laws on bases call: one item, one element; the laws' own small functions. -/
namespace Go.Proofs.YtaoeomgehpdedaaGreat
open Go.RowKit Go.Sort
set_option linter.unusedVariables false

set_option maxRecDepth 100000 in
set_option maxHeartbeats 1000000 in
theorem i.hasKnown_v (w : World) (v : Value) (d : CoD) (A : Option Addr) (c : Nat) (xs : List ItD) (k : Nat) (h : kC.rd w v d) (hok : kC.ok d) (hl : LR kdItem w w.heap.size A c xs) (hw : wtL kdItem xs ≤ 1048576) (hg : goodB d xs = true) (hk : k < xs.length) :
    Calls Tryz.prog 53 #[v, .slice A xs.length c, .int .i64 k] w fun e w' => e = .returned (.bool true) ∧ Ext w w' := by
  obtain ⟨Ac, nc, cc, Al, nl, cl, r, b, p, f, rfl⟩ := kC.shape h
  have ho := goodB_ls hg
  have h14 := ho.n
  have a1 := hl.1; have a2 := hl.2.1
  have hwt : ∀ (i : Nat) (x : ItD), xs[i]? = some x → kdItem.wt x ≤ 1048576 := fun i x hx => Nat.le_trans (wtL_at kdItem xs i x hx) hw
  have JJ := hide (fun (wq : World) (xq : Ext w wq) => i.areKnown_m wq _ d A c w.heap.size xs (kC.rd_ext h xq) hok (hl.ext xq (Nat.le_refl _)) xq.size (by omega) hwt)
  have hg' : Hid ((codeB d && itemsB xs && knownB d.1 xs) = true) := hg
  rw [hg'.out] at JJ
  obtain ⟨W0, hW0⟩ : ∃ W0, Hid (W0 = w.alloc (.cells #[.slice Ac nc cc, .slice Al nl cl, .int .i64 r, .int .i64 b, .int .i64 p, .int .i64 f] 26)) := ⟨_, rfl⟩
  have X0 : Hid (Ext w W0) := by rw [hW0.out]; exact Ext.alloc w _
  clear h hl hwt hg ho
  obtain ⟨n, hn⟩ : ∃ n, Hid (xs.length = n) := ⟨_, rfl⟩
  rw [hn.out] at a1 h14 hk JJ ⊢
  have hin : inB 0 ((n : Int) - 1) (k : Int) = true := by unfold inB; simp; omega
  go_enter Tryz.func53, Tryz.ntmps53
  go_wp2_with (go_at_call 60; refine (i.within_any _ _ _ _).mono ?_; rintro e w' ⟨rfl, rfl⟩)
  rw [← hW0.out]
  clear hW0
  refine (JJ.out _ X0.out).mono ?_
  rintro e w1 ⟨rfl, x1⟩
  have X1 := hide (X0.out.trans x1)
  clear x1
  go_wp2
  go_ret
  exact ⟨rfl, X1.out⟩
set_option maxRecDepth 100000 in
set_option maxHeartbeats 1000000 in
theorem i.ItemBase_v (w : World) (v : Value) (d : CoD) (A : Option Addr) (c : Nat) (xs : List ItD) (k : Nat) (h : kC.rd w v d) (hok : kC.ok d) (hl : LR kdItem w w.heap.size A c xs) (hw : wtL kdItem xs ≤ 1048576) (hg : goodB d xs = true) (hk : k < xs.length) :
    Calls Tryz.prog 18 #[v, .slice A xs.length c, .int .i64 k] w fun e w' => e = .returned (.tuple #[.int .i64 (baseF d xs k), .bool true]) ∧ Ext w w' := by
  obtain ⟨Ac, nc, cc, Al, nl, cl, r, b, p, f, rfl⟩ := kC.shape h
  have GD := hide (fun (wq : World) (xq : Ext w wq) => i.hasKnown_v wq _ d A c xs k (kC.rd_ext h xq) hok ((hl.ext xq (Nat.le_refl _)).more xq.size) hw hg hk)
  have BV := hide (fun (wq : World) (xq : Ext w wq) => i.itemBase_m wq _ d A c w.heap.size xs k (kC.rd_ext h xq) hok (goodB_code hg) (hl.ext xq (Nat.le_refl _)) xq.size (goodB_ls hg) hk)
  clear h hl hg
  generalize baseF d xs k = R at *
  obtain ⟨n, hn⟩ : ∃ n, Hid (xs.length = n) := ⟨_, rfl⟩
  rw [hn.out] at hk GD BV ⊢
  obtain ⟨W0, hW0⟩ : ∃ W0, Hid (W0 = w.alloc (.cells #[.slice Ac nc cc, .slice Al nl cl, .int .i64 r, .int .i64 b, .int .i64 p, .int .i64 f] 26)) := ⟨_, rfl⟩
  have X0 : Hid (Ext w W0) := by rw [hW0.out]; exact Ext.alloc w _
  have B0 : Hid (Blk W0 w.heap.size #[.slice Ac nc cc, .slice Al nl cl, .int .i64 r, .int .i64 b, .int .i64 p, .int .i64 f] 26) := by rw [hW0.out]; exact Blk.new rfl _ _
  go_enter Tryz.func18, Tryz.ntmps18
  go_wp2_with fail
  rw [← hW0.out]
  clear hW0
  refine (GD.out W0 X0.out).mono ?_
  rintro e w1 ⟨rfl, x1⟩
  have X1 := hide (X0.out.trans x1)
  have cB := (B0.out.ext x1).cell
  clear x1 GD X0 B0
  go_wp2_with fail
  refine (BV.out w1 X1.out).mono ?_
  rintro e w2 ⟨rfl, x2⟩
  have X2 := hide (X1.out.trans x2)
  clear x2 cB
  go_wp2
  go_ret2
  exact ⟨rfl, X2.out⟩
set_option maxRecDepth 100000 in
set_option maxHeartbeats 1000000 in
theorem i.isKnownItem_k (w : World) (v : Value) (d : CoD) (v' : Value) (x : ItD) (h : kC.rd w v d) (hok : kC.ok d) (hx : kIm.rd w v' x) (hok' : kIm.ok x) :
    Calls Tryz.prog 56 #[v, v'] w fun e w' => e = .returned (.bool (codeB d && itemB x && knownI d.1 x)) ∧ Ext w w' := by
  obtain ⟨Ac, nc, cc, Al, nl, cl, r, b, p, f, rfl⟩ := kC.shape h
  have HR := hide h
  have HV := hide hx
  obtain ⟨vs, rfl, hx2⟩ := hx
  obtain ⟨A1, c1, A2, c2, rfl, h1, h2⟩ := kdItem.open_ hx2
  rw [kdItem.val3] at HV ⊢
  have HX' := hide hx2
  have H1 := hide h1
  have H2 := hide h2
  clear h hx2 h1 h2
  obtain ⟨W0, hW0⟩ : ∃ W0, Hid (W0 = (w.alloc (.cells #[.slice Ac nc cc, .slice Al nl cl, .int .i64 r, .int .i64 b, .int .i64 p, .int .i64 f] 26)).alloc (.cells #[.slice A1 x.1.length c1, .slice A2 x.2.1.length c2, .bool x.2.2] 47)) := ⟨_, rfl⟩
  have X0 : Hid (Ext w W0) := by rw [hW0.out]; exact (Ext.alloc w _).trans (Ext.alloc _ _)
  have B0 : Hid (Blk W0 w.heap.size #[.slice Ac nc cc, .slice Al nl cl, .int .i64 r, .int .i64 b, .int .i64 p, .int .i64 f] 26) := by rw [hW0.out]; exact (Blk.new rfl _ _).alloc _
  have B1 : Hid (Blk W0 (w.heap.size + 1) #[.slice A1 x.1.length c1, .slice A2 x.2.1.length c2, .bool x.2.2] 47) := by rw [hW0.out]; exact Blk.new (by simp) _ _
  have IC := hide (fun (wq : World) (xq : Ext w wq) => i.IsCode_m wq _ d (kC.rd_ext HR.out xq) hok)
  have II := hide (fun (wq : World) (xq : Ext w wq) => i.IsItem_any wq _ x (kdItem.rd_more (kdItem.rd_ext HX'.out xq (Nat.le_refl _)) xq.size) hok')
  have IK := hide (fun (wq : World) (xq : Ext w wq) => i.isKnown_m (wq.alloc (.cells #[.slice A1 x.1.length c1, .slice A2 x.2.1.length c2, .bool x.2.2] 47)) _ d (some ⟨wq.heap.size, 0, none⟩) 1 (wq.heap.size + 1) [x] (kC.rd_ext HR.out (xq.trans (Ext.alloc _ _))) hok (LR.oneI (H1.out.ext xq (Nat.le_refl _)) (H2.out.ext xq (Nat.le_refl _)) xq.size _) (by simp) (by simp) (fun k y hk => by
    cases k with
    | succ k => simp at hk
    | zero => simp at hk; subst hk; exact hok'))
  rw [known_one] at IK
  rw [kdItem.val3] at II
  generalize x.1.length = m at *
  generalize x.2.1.length = m2 at *
  generalize x.2.2 = q at *
  obtain ⟨R, hR⟩ : ∃ R, Hid ((codeB d && itemB x && knownI d.1 x) = R) := ⟨_, rfl⟩
  rw [hR.out]
  go_enter Tryz.func56, Tryz.ntmps56
  go_wp2_with fail
  rw [← hW0.out]
  clear hW0
  refine (IC.out W0 X0.out).mono ?_
  rintro e w1 ⟨rfl, x1⟩
  replace X0 := hide (X0.out.trans x1)
  replace B0 := hide (B0.out.ext x1)
  replace B1 := hide (B1.out.ext x1)
  clear x1
  have c0_ := B0.out.cell; have c1_ := B1.out.cell
  cases hc : codeB d
  · have HF : Hid (R = false) := by show _ = _; rw [← hR.out, hc]; rfl
    clear hc
    go_wp2
    go_ret
    exact ⟨ret_bool HF.out.symm, X0.out⟩
  rw [hc, Bool.true_and] at hR
  clear hc
  go_wp2_with fail
  refine (II.out w1 X0.out).mono ?_
  rintro e w2 ⟨rfl, x1⟩
  replace X0 := hide (X0.out.trans x1)
  replace B0 := hide (B0.out.ext x1)
  replace B1 := hide (B1.out.ext x1)
  clear x1 c0_ c1_
  have c0_ := B0.out.cell; have c1_ := B1.out.cell
  cases hi : itemB x
  · have HF : Hid (R = false) := by show _ = _; rw [← hR.out, hi]; rfl
    clear hi
    go_wp2
    go_ret
    exact ⟨ret_bool HF.out.symm, X0.out⟩
  rw [hi, Bool.true_and] at hR
  clear hi
  go_wp2_with fail
  refine (IK.out w2 X0.out).mono ?_
  rintro e w3 ⟨rfl, x1⟩
  clear c0_ c1_
  have XX := hide ((X0.out.trans (Ext.alloc _ _)).trans x1)
  clear x1
  go_wp2
  go_ret
  exact ⟨ret_bool hR.out, XX.out⟩
end Go.Proofs.YtaoeomgehpdedaaGreat

/- What the laws on bases call: an element's worth, the programme's base, the laws' own small functions. -/
namespace Go.Proofs.YtaoeomgehpdedaaGreat
open Go.RowKit Go.Sort
set_option linter.unusedVariables false

def elW (d : CoD) (nm : List UInt8) (mark : Int) : Int × Bool := if codeB d && decide (0 ≤ findF d.1 nm) && inB 0 3 mark then (worthN d nm mark, true) else (0, false)
def findL (d : CoD) (nm : List UInt8) : Int × Bool := if codeB d && decide (0 ≤ findF d.1 nm) then (findF d.1 nm, true) else (0, false)
end Go.Proofs.YtaoeomgehpdedaaGreat

/- What the laws on bases call: the reference's worth of an element, sums, lists compared. -/
namespace Go.Proofs.YtaoeomgehpdedaaGreat
open Go.RowKit Go.Sort
set_option linter.unusedVariables false

set_option maxRecDepth 100000 in
set_option maxHeartbeats 1000000 in
theorem s.bsWorth_neg (w : World) (v : Value) (d : CoD) (nm : List UInt8) (mark : Int) (h : kC.rd w v d) (hok : kC.ok d) (hf : findF d.1 nm < 0) :
    Calls Tryz.prog 99 #[v, .string (bs nm), .int .i64 mark] w fun e w' => e = .returned (.int .i64 (-1)) ∧ Ext w w' := by
  have FE := hide (fun (wq : World) (xq : Ext w wq) => s.cdFind_m wq v d nm (kC.rd_ext h xq) hok)
  obtain ⟨Ac, nc, cc, Al, nl, cl, r, b, p, f, rfl⟩ := kC.shape h
  clear h
  generalize findF d.1 nm = z at *
  obtain ⟨W0, hW0⟩ : ∃ W0, Hid (W0 = w.alloc (.cells #[.slice Ac nc cc, .slice Al nl cl, .int .i64 r, .int .i64 b, .int .i64 p, .int .i64 f] 26)) := ⟨_, rfl⟩
  have X0 : Hid (Ext w W0) := by rw [hW0.out]; exact Ext.alloc w _
  go_enter Tryz.func99, Tryz.ntmps99
  go_wp2_with fail
  rw [← hW0.out]
  clear hW0
  refine (FE.out W0 X0.out).mono ?_
  rintro e w1 ⟨rfl, x1⟩
  have X1 := hide (X0.out.trans x1)
  clear x1
  go_wp2
  go_ret
  exact ⟨rfl, X1.out⟩
theorem worthN_nn {d : CoD} (hd : CodeOk d) (nm : List UInt8) (mark : Int) : 0 ≤ worthN d nm mark := (worthN_bd hd nm mark).1
def pbaseLaw (d : CoD) (xs : List ItD) : Int × Bool := if goodB d xs then ((basesF d xs).sum, true) else (0, false)
end Go.Proofs.YtaoeomgehpdedaaGreat

/- The laws' own small functions; plain laws on bases: they add up by families, nothing called down is worth more. -/
namespace Go.Proofs.YtaoeomgehpdedaaGreat
open Go.RowKit Go.Sort
set_option linter.unusedVariables false

theorem sum_take (zs : List Int) (k : Nat) (hk : k < zs.length) : (zs.take (k + 1)).sum = (zs.take k).sum + zs.getD k 0 := by
  rw [List.take_succ_eq_append_getElem hk, List.sum_append]
  simp [List.getD_eq_getElem?_getD, hk]
theorem sumTake_bd (zs : List Int) (h : Small zs) (k : Nat) : -1000000000 * (k : Int) ≤ (zs.take k).sum ∧ (zs.take k).sum ≤ 1000000000 * (k : Int) := by
  induction k with
  | zero => simp
  | succ k ih =>
    by_cases hk : k < zs.length
    · rw [sum_take zs k hk]
      have h1 : zs.getD k 0 ∈ zs := by simp [List.getD_eq_getElem?_getD, hk]
      have h2 := h _ h1
      omega
    · rw [List.take_of_length_le (by omega)] at ih ⊢
      omega
def bigB (n n' : Nat) : Bool := decide ((1048576 : Int) < n) || decide ((1048576 : Int) - n < n')
/-! ### Families add up -/
theorem set_sum (zs : List Int) (i : Nat) (hi : i < zs.length) (z : Int) : (zs.set i z).sum = zs.sum - zs.getD i 0 + z := by
  induction zs generalizing i with
  | nil => simp at hi
  | cons y t ih =>
    cases i with
    | zero => simp; omega
    | succ i =>
      have := ih i (by simpa using hi)
      simp only [List.set_cons_succ, List.sum_cons, this, List.getD_cons_succ]
      omega
theorem fam_sum {d : CoD} (hd : CodeOk d) (xs : List ItD) (k : Nat) : (famN d xs k).sum = (basesN d xs k).sum := by
  induction k with
  | zero => rfl
  | succ k ih =>
    have hf := familyF_bd hd (xs.getD k noItem)
    rw [basesN_succ, List.sum_append, ← ih]
    show ((famN d xs k).set _ _).sum = _
    rw [set_sum _ _ (by rw [famN_len]; omega)]
    simp
    omega
theorem fam_sum_all {d : CoD} (hd : CodeOk d) (xs : List ItD) : (famN d xs xs.length).sum = (basesF d xs).sum := fam_sum hd xs xs.length
theorem fam_small {d : CoD} (hd : CodeOk d) {xs : List ItD} (ho : LsOk d xs) : Small (famN d xs xs.length) := by
  intro z hz
  obtain ⟨i, hi, rfl⟩ := List.getElem_of_mem hz
  have h := famN_bd hd ho xs.length i
  rw [List.getD_eq_getElem?_getD, List.getElem?_eq_getElem hi] at h
  simp at h
  have := ho.n
  omega
theorem bases_sm {d : CoD} (hd : CodeOk d) {xs : List ItD} (ho : LsOk d xs) : Small (basesF d xs) := fun z hz => by
  have := basesN_bd hd ho xs.length z hz
  omega
theorem base_le_full {d : CoD} (hd : CodeOk d) {xs : List ItD} (ho : LsOk d xs) {k : Nat} {x : ItD} (hx : xs[k]? = some x) : baseF d xs k ≤ fullF d x ∧ 0 ≤ baseF d xs k := by
  have h3 := (ho.it k x hx).n3
  have hb := fullF_bd hd x h3
  have e : xs.getD k noItem = x := getD_some hx
  unfold baseF
  rw [e]
  split
  · omega
  · split <;> omega
/-! ### Nothing called down is worth more -/
theorem worthE_le {kp : Int} {x : ElD} (mark : Int) (hk : 0 ≤ kp ∧ kp ≤ 100) (hx : 0 ≤ x.2.2.2) : worthE kp x mark ≤ worthE kp x 0 := by
  unfold worthE
  rw [if_neg (show ¬ (0 : Int) = 1 by omega), if_neg (show ¬ (0 : Int) = 2 by omega), if_neg (show ¬ (0 : Int) = 3 by omega)]
  split
  · have h1 : x.2.2.2 * kp ≤ x.2.2.2 * 100 := Int.mul_le_mul_of_nonneg_left hk.2 hx
    omega
  · split
    · omega
    · split <;> omega
theorem worthN_le {d : CoD} (hd : CodeOk d) (nm : List UInt8) (mark : Int) : worthN d nm mark ≤ worthN d nm 0 := by
  unfold worthN
  have hk := hd.kep
  cases hx : d.1[(findF d.1 nm).toNat]? with
  | none =>
    rw [List.getD_eq_getElem?_getD, hx]
    exact worthE_le mark (by omega) (by decide)
  | some y =>
    rw [getD_some hx]
    have := elB_ok (hd.els _ _ hx)
    exact worthE_le mark (by omega) (by omega)
theorem sumN_clean {d : CoD} (hd : CodeOk d) (x : ItD) (k : Nat) (hk : k ≤ x.1.length) : sumN d x k ≤ sumN d (cleanD x) k := by
  induction k with
  | zero => exact Int.le_refl _
  | succ k ih =>
    rw [sumN_succ, sumN_succ]
    have h1 := ih (by omega)
    have h2 : worthAt d x k ≤ worthAt d (cleanD x) k := by
      unfold worthAt
      have e : (cleanD x).2.1.getD k 0 = 0 := by
        show (List.replicate x.1.length (0 : Int)).getD k 0 = 0
        rw [List.getD_eq_getElem?_getD, List.getElem?_replicate]
        split <;> rfl
      rw [e]
      exact worthN_le hd _ _
    omega
theorem full_clean {d : CoD} (hd : CodeOk d) (x : ItD) : fullF d x ≤ fullF d (cleanD x) := by
  have h : (worthsF d x).sum ≤ (worthsF d (cleanD x)).sum := sumN_clean hd x x.1.length (Nat.le_refl _)
  have hb := hd.bon
  unfold fullF
  show (if x.2.2 then _ else _) ≤ (if x.2.2 then _ else _)
  split
  · unfold roundI
    have h2 : (worthsF d x).sum * (100 + d.2.2.2.1) ≤ (worthsF d (cleanD x)).sum * (100 + d.2.2.2.1) := Int.mul_le_mul_of_nonneg_right h (by omega)
    omega
  · exact h
/-- No item before k has k's first name. -/
def firstB (xs : List ItD) (k j : Nat) : Bool := (xs.take j).all (fun y => !(y.1.getD 0 [] == (xs.getD k noItem).1.getD 0 []))
theorem firstB_succ {xs : List ItD} {k j : Nat} {y : ItD} (hy : xs[j]? = some y) : firstB xs k (j + 1) = (firstB xs k j && !(y.1.getD 0 [] == (xs.getD k noItem).1.getD 0 [])) := by
  obtain ⟨hj, rfl⟩ := List.getElem?_eq_some_iff.1 hy
  unfold firstB
  rw [List.take_succ_eq_append_getElem hj, List.all_append]
  simp
theorem rep_first {xs : List ItD} {k : Nat} (h : firstB xs k k = true) : repF xs k = 0 := by
  unfold repF repN
  rw [List.length_eq_zero_iff, List.filter_eq_nil_iff]
  intro y hy
  have := (List.all_eq_true.1 h) y hy
  simp only [repP]
  simp at this ⊢
  intro e
  exact absurd e (fun e => this (by simpa using e))
theorem first_clean {xs : List ItD} {k : Nat} (hk : k < xs.length) (h : firstB xs k k = true) : firstB (xs.map cleanD) k k = true := by
  unfold firstB at h ⊢
  rw [List.all_eq_true] at h ⊢
  intro y hy
  rw [← List.map_take] at hy
  obtain ⟨z, hz, rfl⟩ := List.mem_map.1 hy
  have h1 := h z hz
  have e : (xs.map cleanD).getD k noItem = cleanD (xs.getD k noItem) := by
    simp [List.getD_eq_getElem?_getD, hk]
  rw [e]
  exact h1
theorem loss_nn {d : CoD} (hd : CodeOk d) {xs : List ItD} {k : Nat} (hk : k < xs.length) (h : firstB xs k k = true) : 0 ≤ (lossN d xs xs.length).getD k 0 := by
  have e : (lossN d xs xs.length).getD k 0 = baseF d (xs.map cleanD) k - baseF d xs k := by
    unfold lossN
    rw [List.getD_eq_getElem?_getD, List.getElem?_map, List.getElem?_range hk]
    simp [lossA, hk]
  rw [e]
  have hr := hd.rep
  have e1 : (xs.map cleanD).getD k noItem = cleanD (xs.getD k noItem) := by
    simp [List.getD_eq_getElem?_getD, hk]
  unfold baseF
  rw [rep_first h, rep_first (first_clean hk h), e1, if_pos (by omega), if_pos (by omega)]
  have := full_clean hd (xs.getD k noItem)
  omega
end Go.Proofs.YtaoeomgehpdedaaGreat
