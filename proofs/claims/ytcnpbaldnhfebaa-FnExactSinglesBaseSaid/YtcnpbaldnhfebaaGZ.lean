/- GZ: ZA, ZB, ZC, ZD, ZE, ZF, ZG, ZH, ZI, ZJ, ZK, ZL in one text. -/
import Derived.Test.YtcnpbaldnhfebaaGY
import Derived.Test.YtcnpbaldnhfebaaRW
/- Names by the rules, and counts of families, plainly. -/
namespace Go.Proofs.Ytcnpbaldnhfebaa
open Go.RowKit Go.Sort
set_option linter.unusedVariables false

/-- A name of an item keeps one of the rules 2, 4 and 7. -/
def nameR (d : CoD) (xs : List ItD) (r : Int) (x : ItD) (nm : List UInt8) : Bool := if r = 2 then decide (0 ≤ findF d.1 nm) else if r = 4 then jumpN d x nm else repW d xs nm
def nameI (d : CoD) (xs : List ItD) (r : Int) (x : ItD) : Bool := x.1.all (nameR d xs r x)
def namesR (d : CoD) (xs : List ItD) (r : Int) : Bool := xs.all (nameI d xs r)
theorem names2 (d : CoD) (xs : List ItD) : namesR d xs 2 = ruleB d xs 2 := rfl
theorem names4 (d : CoD) (xs : List ItD) : namesR d xs 4 = ruleB d xs 4 := rfl
theorem names7 (d : CoD) (xs : List ItD) : namesR d xs 7 = ruleB d xs 7 := rfl
/-- How many items each family has among the first k. -/
def fcL (d : CoD) (xs : List ItD) (k : Nat) : List Int := (List.range 5).map (fun f => (famCnt d (xs.take k) f : Int))
theorem fcL_len (d : CoD) (xs : List ItD) (k : Nat) : (fcL d xs k).length = 5 := by simp [fcL]
theorem fcL_zero (d : CoD) (xs : List ItD) : fcL d xs 0 = List.replicate 5 0 := by simp [fcL, famCnt]; rfl
theorem famCnt_succ (d : CoD) {xs : List ItD} {k : Nat} {x : ItD} (h : xs[k]? = some x) (f : Nat) : famCnt d (xs.take (k + 1)) f = famCnt d (xs.take k) f + if famI d x == (f : Int) then 1 else 0 := by
  unfold famCnt
  exact filter_succ (fun x => famI d x == (f : Int)) h
theorem fcL_skip {d : CoD} {xs : List ItD} {k : Nat} {x : ItD} (h : xs[k]? = some x) (hf : famI d x < 0) : fcL d xs (k + 1) = fcL d xs k := by
  unfold fcL
  refine List.map_congr_left fun f _ => ?_
  rw [famCnt_succ d h f, if_neg (by simp; omega)]
  rfl
theorem fcL_at (d : CoD) (xs : List ItD) (k f : Nat) (hf : f < 5) : (fcL d xs k).getD f 0 = famCnt d (xs.take k) f := by
  unfold fcL
  rw [List.getD_eq_getElem?_getD, List.getElem?_map, List.getElem?_range hf]
  rfl
theorem fcL_hit {d : CoD} {xs : List ItD} {k f : Nat} {x : ItD} (h : xs[k]? = some x) (hf : famI d x = f) (h5 : f < 5) : fcL d xs (k + 1) = (fcL d xs k).set f ((fcL d xs k).getD f 0 + 1) := by
  apply List.ext_getElem?
  intro i
  rw [List.getElem?_set, fcL_len, fcL_at _ _ _ _ h5]
  by_cases hi : i < 5
  · have e : ∀ k, (fcL d xs k)[i]? = some (famCnt d (xs.take k) i : Int) := fun k => by
      unfold fcL
      rw [List.getElem?_map, List.getElem?_range hi]
      rfl
    rw [e, famCnt_succ d h i]
    by_cases hx : f = i
    · subst hx
      rw [if_pos rfl, if_pos h5, if_pos (by simp [hf])]
      rfl
    · rw [if_neg hx, e, if_neg (by simp [hf]; omega)]
      rfl
  · rw [List.getElem?_eq_none (by rw [fcL_len]; omega), if_neg (by omega), List.getElem?_eq_none (by rw [fcL_len]; omega)]
theorem famCnt_le (d : CoD) (xs : List ItD) (k f : Nat) : famCnt d (xs.take k) f ≤ k := by
  unfold famCnt
  have h1 := List.length_filter_le (fun x => famI d x == (f : Int)) (xs.take k)
  rw [List.length_take] at h1
  omega
theorem fcL_bd (d : CoD) (xs : List ItD) (k f : Nat) : 0 ≤ (fcL d xs k).getD f 0 ∧ (fcL d xs k).getD f 0 ≤ k := by
  by_cases hf : f < 5
  · rw [fcL_at _ _ _ _ hf]
    have := famCnt_le d xs k f
    omega
  · rw [List.getD_eq_getElem?_getD, List.getElem?_eq_none (by rw [fcL_len]; omega)]
    simp
theorem famI_bd {d : CoD} (hd : CodeOk d) (x : ItD) : -1 ≤ famI d x ∧ famI d x ≤ 4 := by
  have := familyF_bd hd x
  unfold famI
  split <;> omega
/-- No family has more items than its limit. -/
def fitAt (d : CoD) (xs : List ItD) (f : Nat) : Bool := decide ((famCnt d xs f : Int) ≤ d.2.1.getD f 0)
theorem rule6 (d : CoD) (xs : List ItD) : ruleB d xs 6 = (List.range 5).all (fitAt d xs) := rfl
end Go.Proofs.Ytcnpbaldnhfebaa

/- A name by the rules (the reference). -/
namespace Go.Proofs.Ytcnpbaldnhfebaa
open Go.RowKit Go.Sort
set_option linter.unusedVariables false

end Go.Proofs.Ytcnpbaldnhfebaa

/- All names by the rules (the reference). -/
namespace Go.Proofs.Ytcnpbaldnhfebaa
open Go.RowKit Go.Sort
set_option linter.unusedVariables false

end Go.Proofs.Ytcnpbaldnhfebaa

/- Combined items have jumps alone (the program). -/
namespace Go.Proofs.Ytcnpbaldnhfebaa
open Go.RowKit Go.Sort
set_option linter.unusedVariables false
def jumpI (d : CoD) (x : ItD) : Bool := x.1.all (jumpN d x)

end Go.Proofs.Ytcnpbaldnhfebaa

/- The family of an item, or -1. -/
namespace Go.Proofs.Ytcnpbaldnhfebaa
open Go.RowKit Go.Sort
set_option linter.unusedVariables false

end Go.Proofs.Ytcnpbaldnhfebaa

/- How many items each family has. -/
namespace Go.Proofs.Ytcnpbaldnhfebaa
open Go.RowKit Go.Sort
set_option linter.unusedVariables false

end Go.Proofs.Ytcnpbaldnhfebaa

/- Items without marks, and families within their limits (the program). -/
namespace Go.Proofs.Ytcnpbaldnhfebaa
open Go.RowKit Go.Sort
set_option linter.unusedVariables false

end Go.Proofs.Ytcnpbaldnhfebaa

/- A rule holds (the program). -/
namespace Go.Proofs.Ytcnpbaldnhfebaa
open Go.RowKit Go.Sort
set_option linter.unusedVariables false

theorem i.isLateAt_any (k n : Int) (w : World) (h0 : 0 ≤ k) (h1 : k ≤ 1048576) (h2 : 0 ≤ n) (h3 : n ≤ 1048576) : Calls Try.prog 62 #[.int .i64 k, .int .i64 n] w fun e w' => e = .returned (.bool (decide (n ≤ 2 * k))) ∧ w = w' := by
  go_enter Try.func62, Try.ntmps62
  go_wp2
  go_ret
  exact ⟨rfl, rfl⟩

/-- What the rules ask of a list. -/
structure PgOk (d : CoD) (xs : List ItD) : Prop where
  cd : CodeOk d
  n14 : xs.length ≤ 14
  n3 : ∀ x ∈ xs, 1 ≤ x.1.length ∧ x.1.length ≤ 3
  wt : wtL kdItem xs ≤ 1048576
theorem PgOk.le3 {d : CoD} {xs : List ItD} (h : PgOk d xs) : ∀ x ∈ xs, x.1.length ≤ 3 := fun x hx => (h.n3 x hx).2
theorem PgOk.wtk {d : CoD} {xs : List ItD} (h : PgOk d xs) : ∀ (k : Nat) (x : ItD), xs[k]? = some x → kdItem.wt x ≤ 1048576 := fun k x hk => Nat.le_trans (wtL_at kdItem xs k x hk) h.wt

end Go.Proofs.Ytcnpbaldnhfebaa

/- A rule holds (the reference). -/
namespace Go.Proofs.Ytcnpbaldnhfebaa
open Go.RowKit Go.Sort
set_option linter.unusedVariables false

end Go.Proofs.Ytcnpbaldnhfebaa

/- The broken rules; a programme. -/
namespace Go.Proofs.Ytcnpbaldnhfebaa
open Go.RowKit Go.Sort
set_option linter.unusedVariables false

theorem pgOk {d : CoD} {xs : List ItD} (hd : codeB d = true) (hi : itemsB xs = true) (hw : wtL kdItem xs ≤ 1048576) : PgOk d xs := by
  simp only [itemsB, Bool.and_eq_true, List.all_eq_true, decide_eq_true_eq] at hi
  exact ⟨codeB_ok hd, by omega, fun x hx => by have := itemB_ok (hi.1 x hx); omega, hw⟩
def brkF (d : CoD) (xs : List ItD) : List Int × Bool := if codeB d && itemsB xs then (brokenF d xs, true) else ([], false)
theorem brokenN_len (d : CoD) (xs : List ItD) (k : Nat) : (brokenN d xs k).length ≤ k := by
  unfold brokenN
  exact Nat.le_trans (List.length_filter_le _ _) (by simp)

end Go.Proofs.Ytcnpbaldnhfebaa

/- A list is a programme. -/
namespace Go.Proofs.Ytcnpbaldnhfebaa
open Go.RowKit Go.Sort
set_option linter.unusedVariables false

theorem progB_no {d : CoD} {xs : List ItD} (h : (codeB d && itemsB xs) = false) : progB d xs = false := by unfold progB; rw [h]; rfl
theorem progB_yes {d : CoD} {xs : List ItD} (h : (codeB d && itemsB xs) = true) : progB d xs = decide (((brokenF d xs).length : Int) = 0) := by unfold progB; rw [h]; rfl

end Go.Proofs.Ytcnpbaldnhfebaa

/- Lists with Late as the rule says. -/
namespace Go.Proofs.Ytcnpbaldnhfebaa
open Go.RowKit Go.Sort
set_option linter.unusedVariables false

def lateK (xs : List ItD) (k : Nat) : List ItD := (List.range xs.length).map (fun i => if i < k then lateD xs.length i (xs.getD i noItem) else xs.getD i noItem)
theorem lateK_len (xs : List ItD) (k : Nat) : (lateK xs k).length = xs.length := by simp [lateK]
theorem lateK_get (xs : List ItD) (k i : Nat) (h : i < xs.length) : (lateK xs k)[i]? = some (if i < k then lateD xs.length i xs[i] else xs[i]) := by
  unfold lateK
  rw [List.getElem?_map, List.getElem?_range h, Option.map_some, List.getD_eq_getElem?_getD, List.getElem?_eq_getElem h]
  rfl
theorem lateK_zero (xs : List ItD) : lateK xs 0 = xs := by
  apply List.ext_getElem?
  intro i
  by_cases h : i < xs.length
  · rw [lateK_get xs 0 i h, List.getElem?_eq_getElem h, if_neg (by omega)]
  · rw [List.getElem?_eq_none (by rw [lateK_len]; omega), List.getElem?_eq_none (by omega)]
theorem lateK_all (xs : List ItD) : lateK xs xs.length = lateL xs := by
  unfold lateK lateL
  refine List.map_congr_left fun i hi => ?_
  rw [if_pos (List.mem_range.1 hi)]
theorem lateK_at (xs : List ItD) {k : Nat} {x : ItD} (h : xs[k]? = some x) : (lateK xs k)[k]? = some x := by
  obtain ⟨hk, rfl⟩ := List.getElem?_eq_some_iff.1 h
  rw [lateK_get xs k k hk, if_neg (by omega)]
theorem lateK_set (xs : List ItD) {k : Nat} {x : ItD} (h : xs[k]? = some x) : (lateK xs k).set k (lateD xs.length k x) = lateK xs (k + 1) := by
  obtain ⟨hk, rfl⟩ := List.getElem?_eq_some_iff.1 h
  apply List.ext_getElem?
  intro i
  rw [List.getElem?_set, lateK_len]
  by_cases h : i < xs.length
  · rw [lateK_get xs (k + 1) i h, lateK_get xs k i h]
    by_cases hki : k = i
    · subst hki
      rw [if_pos rfl, if_pos h, if_pos (by omega)]
    · rw [if_neg hki]
      by_cases hi : i < k
      · rw [if_pos hi, if_pos (by omega)]
      · rw [if_neg hi, if_neg (by omega)]
  · rw [if_neg (by omega)]
    rw [List.getElem?_eq_none (by rw [lateK_len]; omega), List.getElem?_eq_none (by rw [lateK_len]; omega)]
theorem kdItem.own_late {w : World} {cs : List Value} {x : ItD} {f : List Nat} (h : kdItem.own w cs x f) (q : Bool) : cs[2]? = some (.bool x.2.2) ∧ kdItem.own w (cs.set 2 (.bool q)) (x.1, x.2.1, q) f := by
  obtain ⟨v1, v2, f1, f2, hcs0, ⟨A1, c1, rfl, l1⟩, ⟨v3, v4, f3, f4, rfl, ⟨A2, c2, rfl, l2⟩, ⟨h4, rfl⟩, hf2, _⟩, hf, hnd⟩ := h
  have h4 : v4 = [.bool x.2.2] := h4
  subst h4
  simp only [List.append_nil] at hf2
  subst hf2
  have hcs0 : cs = [.slice A1 x.1.length c1, .slice A2 x.2.1.length c2, .bool x.2.2] := hcs0
  subst hcs0
  subst hf
  have hdj : ∀ i ∈ f1, i ∉ f2 := by rw [List.nodup_append] at hnd; exact fun i hi hi' => hnd.2.2 i hi i hi' rfl
  exact ⟨rfl, kdItem.mkOwn (d := (x.1, x.2.1, q)) l1 l2 hdj⟩

set_option maxRecDepth 100000 in
set_option maxHeartbeats 2000000 in
theorem i.markLate_m (w : World) (A : Option Addr) (c B : Nat) (xs : List ItD) (h : LR kdItem w B A c xs) (hB : B ≤ w.heap.size) (hwt : wtL kdItem xs ≤ 1048576) :
    Calls Try.prog 36 #[.slice A xs.length c] w fun e w' => ∃ A' c' fp, e = .returned (.slice A' xs.length c') ∧ LO kdItem 59 w' A' c' (lateL xs) fp ∧ (∀ i ∈ fp, w.heap.size ≤ i) ∧ Ext w w' := by
  have CI := hide (i.copyItems_any w A c B xs h hB hwt)
  have hlen := wtL_len kdItem xs
  have hn0 : xs.length ≤ 1048576 := by omega
  have a1 := h.1; have a2 := h.2.1
  have LA := hide (lateK_all xs)
  have LS := hide (fun (k : Nat) (x : ItD) (hx : xs[k]? = some x) => lateK_set xs hx)
  clear h hwt hlen
  obtain ⟨n, hn⟩ : ∃ n, Hid (xs.length = n) := ⟨_, rfl⟩
  rw [hn.out] at CI hn0 a1 LA LS ⊢
  go_enter Try.func36, Try.ntmps36
  go_wp2_with fail
  refine CI.out.mono ?_
  rintro e w1 ⟨A1, c1, fp, rfl, ho, hf, hx⟩
  have HO : Hid (LO kdItem 59 w1 A1 c1 (lateK xs 0) fp) := by rw [lateK_zero]; exact ho
  have HF := hide hf
  have HX := hide hx
  have cap := ho.cap
  rw [hn.out] at cap
  have ca1 := cap.1; have ca2 := cap.2
  clear ho hf hx CI cap
  go_wp2
  go_loopw [9] (fun i wr => ∃ (k : Nat), k ≤ n ∧ i = .int .i64 k ∧ LO kdItem 59 wr A1 c1 (lateK xs k) fp ∧ Ext w wr) (fun i _ => n - (intOf i).toNat)
  case atStart => exact ⟨0, Nat.zero_le _, rfl, HO.out, HX.out⟩
  case round =>
    obtain ⟨k, hk, rfl, ho, hx⟩ := hrel
    clear HO HX
    by_cases hlt : k < n
    · obtain ⟨x, hxk⟩ : ∃ x, Hid (xs[k]? = some x) := get_exP xs k (by rw [hn.out]; exact hlt)
      obtain ⟨g, cs, f, rfl, own, sub, mem, glt, cell, free, put⟩ := LO.put ho k x (lateK_at xs hxk.out)
      have gw := HF.out g mem
      have OL := kdItem.own_late own (decide ((n : Int) ≤ 2 * (k : Int)))
      have q2 : wr.cell? ⟨g, k * 3 + 2, none⟩ = some (.bool x.2.2) := cell 2 _ OL.1
      have qf := free (k * 3 + 2)
      have P2 := put wr 2 (.bool (decide ((n : Int) ≤ 2 * (k : Int)))) _ (by decide) OL.2 (TchF.refl _ _)
      have e2 : (x.1, x.2.1, decide ((n : Int) ≤ 2 * (k : Int))) = lateD n k x := rfl
      rw [e2, LS.out k x hxk.out] at P2
      have YX : Hid (Ext w (wr.setCell ⟨g, k * kdItem.size + 2, none⟩ (.bool (decide ((n : Int) ≤ 2 * (k : Int)))))) := Below.setCell hx (by simpa using gw) _
      have P2' : Hid (LO kdItem 59 (wr.setCell ⟨g, k * 3 + 2, none⟩ (.bool (decide ((n : Int) ≤ 2 * (k : Int))))) (some ⟨g, 0, none⟩) c1 (lateK xs (k + 1)) fp) := P2
      have YX' : Hid (Ext w (wr.setCell ⟨g, k * 3 + 2, none⟩ (.bool (decide ((n : Int) ≤ 2 * (k : Int)))))) := YX.out
      clear ho hx own sub cell free put OL P2 e2 YX
      have i1 : (k : Int) < n := by omega
      obtain ⟨T, hT⟩ : ∃ T, Hid (decide ((n : Int) ≤ 2 * (k : Int)) = T) := ⟨_, rfl⟩
      rw [hT.out] at P2' YX'
      have IL := hide (fun (wq : World) => i.isLateAt_any (k : Int) (n : Int) wq (by omega) (by omega) (by omega) (by omega))
      rw [hT.out] at IL
      clear hT
      go_wp2_with fail
      refine (IL.out _).mono ?_
      rintro e w5 ⟨rfl, rfl⟩
      clear IL
      go_wp2
      generalize wr.setCell ⟨g, k * 3 + 2, none⟩ (.bool T) = w6 at *
      go_roundw
      case rel => exact ⟨k + 1, by omega, by go_num, P2'.out, YX'.out⟩
      case measure => simp [intOf]; omega
    · have ek : n = k := by omega
      subst ek
      have HO := hide ho
      have HX := hide hx
      clear ho hx
      rw [LA.out] at HO
      go_wp2
      go_ret
      exact ⟨_, _, fp, rfl, HO.out, HF.out, HX.out⟩
set_option maxRecDepth 100000 in
set_option maxHeartbeats 2000000 in
theorem s.pgLate_m (w : World) (A : Option Addr) (c B : Nat) (xs : List ItD) (h : LR kdItem w B A c xs) (hB : B ≤ w.heap.size) (hwt : wtL kdItem xs ≤ 1048576) :
    Calls Try.prog 74 #[.slice A xs.length c] w fun e w' => ∃ A' c' fp, e = .returned (.slice A' xs.length c') ∧ LO kdItem 59 w' A' c' (lateL xs) fp ∧ (∀ i ∈ fp, w.heap.size ≤ i) ∧ Ext w w' := by
  have CI := hide (s.itOwn_any w A c B xs h hB hwt)
  have hlen := wtL_len kdItem xs
  have hn0 : xs.length ≤ 1048576 := by omega
  have a1 := h.1; have a2 := h.2.1
  have LA := hide (lateK_all xs)
  have LS := hide (fun (k : Nat) (x : ItD) (hx : xs[k]? = some x) => lateK_set xs hx)
  clear h hwt hlen
  obtain ⟨n, hn⟩ : ∃ n, Hid (xs.length = n) := ⟨_, rfl⟩
  rw [hn.out] at CI hn0 a1 LA LS ⊢
  go_enter Try.func74, Try.ntmps74
  go_wp2_with fail
  refine CI.out.mono ?_
  rintro e w1 ⟨A1, c1, fp, rfl, ho, hf, hx⟩
  have HO : Hid (LO kdItem 59 w1 A1 c1 (lateK xs 0) fp) := by rw [lateK_zero]; exact ho
  have HF := hide hf
  have HX := hide hx
  have cap := ho.cap
  rw [hn.out] at cap
  have ca1 := cap.1; have ca2 := cap.2
  clear ho hf hx CI cap
  go_wp2
  go_loopw [9] (fun i wr => ∃ (k : Nat), k ≤ n ∧ i = .int .i64 k ∧ LO kdItem 59 wr A1 c1 (lateK xs k) fp ∧ Ext w wr) (fun i _ => n - (intOf i).toNat)
  case atStart => exact ⟨0, Nat.zero_le _, rfl, HO.out, HX.out⟩
  case round =>
    obtain ⟨k, hk, rfl, ho, hx⟩ := hrel
    clear HO HX
    by_cases hlt : k < n
    · obtain ⟨x, hxk⟩ : ∃ x, Hid (xs[k]? = some x) := get_exP xs k (by rw [hn.out]; exact hlt)
      obtain ⟨g, cs, f, rfl, own, sub, mem, glt, cell, free, put⟩ := LO.put ho k x (lateK_at xs hxk.out)
      have gw := HF.out g mem
      have OL := kdItem.own_late own (decide ((n : Int) ≤ 2 * (k : Int)))
      have q2 : wr.cell? ⟨g, k * 3 + 2, none⟩ = some (.bool x.2.2) := cell 2 _ OL.1
      have qf := free (k * 3 + 2)
      have P2 := put wr 2 (.bool (decide ((n : Int) ≤ 2 * (k : Int)))) _ (by decide) OL.2 (TchF.refl _ _)
      have e2 : (x.1, x.2.1, decide ((n : Int) ≤ 2 * (k : Int))) = lateD n k x := rfl
      rw [e2, LS.out k x hxk.out] at P2
      have YX : Hid (Ext w (wr.setCell ⟨g, k * kdItem.size + 2, none⟩ (.bool (decide ((n : Int) ≤ 2 * (k : Int)))))) := Below.setCell hx (by simpa using gw) _
      have P2' : Hid (LO kdItem 59 (wr.setCell ⟨g, k * 3 + 2, none⟩ (.bool (decide ((n : Int) ≤ 2 * (k : Int))))) (some ⟨g, 0, none⟩) c1 (lateK xs (k + 1)) fp) := P2
      have YX' : Hid (Ext w (wr.setCell ⟨g, k * 3 + 2, none⟩ (.bool (decide ((n : Int) ≤ 2 * (k : Int)))))) := YX.out
      clear ho hx own sub cell free put OL P2 e2 YX
      have i1 : (k : Int) < n := by omega
      obtain ⟨T, hT⟩ : ∃ T, Hid (decide ((n : Int) ≤ 2 * (k : Int)) = T) := ⟨_, rfl⟩
      rw [hT.out] at P2' YX'
      cases T
      · have i2 : ¬ (n : Int) ≤ 2 * (k : Int) := by simpa using hT.out
        clear hT
        go_wp2
        generalize wr.setCell ⟨g, k * 3 + 2, none⟩ (.bool false) = w6 at *
        go_roundw
        case rel => exact ⟨k + 1, by omega, by go_num, P2'.out, YX'.out⟩
        case measure => simp [intOf]; omega
      · have i2 : (n : Int) ≤ 2 * (k : Int) := by simpa using hT.out
        clear hT
        go_wp2
        generalize wr.setCell ⟨g, k * 3 + 2, none⟩ (.bool true) = w6 at *
        go_roundw
        case rel => exact ⟨k + 1, by omega, by go_num, P2'.out, YX'.out⟩
        case measure => simp [intOf]; omega
    · have ek : n = k := by omega
      subst ek
      have HO := hide ho
      have HX := hide hx
      clear ho hx
      rw [LA.out] at HO
      go_wp2
      go_ret
      exact ⟨_, _, fp, rfl, HO.out, HF.out, HX.out⟩
end Go.Proofs.Ytcnpbaldnhfebaa
