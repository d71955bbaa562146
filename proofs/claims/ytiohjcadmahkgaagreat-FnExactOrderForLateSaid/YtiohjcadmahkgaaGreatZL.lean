/- Lists with Late as the rule says. -/
import Derived.Test.YtiohjcadmahkgaaGreatZK
import Derived.Test.YtiohjcadmahkgaaGreatRW
namespace Go.Proofs.YtiohjcadmahkgaaGreat
open Go.RowKit Go.Sort
set_option linter.unusedVariables false

def lateK (xs : List ItD) (k : Nat) : List ItD := (List.range xs.length).map (fun i => if i < k then lateD xs.length i (xs.getD i noItem) else xs.getD i noItem)
theorem lateK_len (xs : List ItD) (k : Nat) : (lateK xs k).length = xs.length := by simp [lateK]
theorem lateK_get (xs : List ItD) (k i : Nat) (h : i < xs.length) : (lateK xs k)[i]? = some (if i < k then lateD xs.length i xs[i] else xs[i]) := by
  unfold lateK
  rw [List.getElem?_map, List.getElem?_range h, Option.map_some, List.getD_eq_getElem?_getD, List.getElem?_eq_getElem h]
  rfl
theorem lateK_zero (xs : List ItD) : lateK xs 0 = xs := by
  apply List.ext_getElem?
  intro i
  by_cases h : i < xs.length
  · rw [lateK_get xs 0 i h, List.getElem?_eq_getElem h, if_neg (by omega)]
  · rw [List.getElem?_eq_none (by rw [lateK_len]; omega), List.getElem?_eq_none (by omega)]
theorem lateK_all (xs : List ItD) : lateK xs xs.length = lateL xs := by
  unfold lateK lateL
  refine List.map_congr_left fun i hi => ?_
  rw [if_pos (List.mem_range.1 hi)]
theorem lateK_at (xs : List ItD) {k : Nat} {x : ItD} (h : xs[k]? = some x) : (lateK xs k)[k]? = some x := by
  obtain ⟨hk, rfl⟩ := List.getElem?_eq_some_iff.1 h
  rw [lateK_get xs k k hk, if_neg (by omega)]
theorem lateK_set (xs : List ItD) {k : Nat} {x : ItD} (h : xs[k]? = some x) : (lateK xs k).set k (lateD xs.length k x) = lateK xs (k + 1) := by
  obtain ⟨hk, rfl⟩ := List.getElem?_eq_some_iff.1 h
  apply List.ext_getElem?
  intro i
  rw [List.getElem?_set, lateK_len]
  by_cases h : i < xs.length
  · rw [lateK_get xs (k + 1) i h, lateK_get xs k i h]
    by_cases hki : k = i
    · subst hki
      rw [if_pos rfl, if_pos h, if_pos (by omega)]
    · rw [if_neg hki]
      by_cases hi : i < k
      · rw [if_pos hi, if_pos (by omega)]
      · rw [if_neg hi, if_neg (by omega)]
  · rw [if_neg (by omega)]
    rw [List.getElem?_eq_none (by rw [lateK_len]; omega), List.getElem?_eq_none (by rw [lateK_len]; omega)]
theorem kdItem.own_late {w : World} {cs : List Value} {x : ItD} {f : List Nat} (h : kdItem.own w cs x f) (q : Bool) : cs[2]? = some (.bool x.2.2) ∧ kdItem.own w (cs.set 2 (.bool q)) (x.1, x.2.1, q) f := by
  obtain ⟨v1, v2, f1, f2, hcs0, ⟨A1, c1, rfl, l1⟩, ⟨v3, v4, f3, f4, rfl, ⟨A2, c2, rfl, l2⟩, ⟨h4, rfl⟩, hf2, _⟩, hf, hnd⟩ := h
  have h4 : v4 = [.bool x.2.2] := h4
  subst h4
  simp only [List.append_nil] at hf2
  subst hf2
  have hcs0 : cs = [.slice A1 x.1.length c1, .slice A2 x.2.1.length c2, .bool x.2.2] := hcs0
  subst hcs0
  subst hf
  have hdj : ∀ i ∈ f1, i ∉ f2 := by rw [List.nodup_append] at hnd; exact fun i hi hi' => hnd.2.2 i hi i hi' rfl
  exact ⟨rfl, kdItem.mkOwn (d := (x.1, x.2.1, q)) l1 l2 hdj⟩

set_option maxRecDepth 100000 in
set_option maxHeartbeats 2000000 in
theorem i.markLate_m (w : World) (A : Option Addr) (c B : Nat) (xs : List ItD) (h : LR kdItem w B A c xs) (hB : B ≤ w.heap.size) (hwt : wtL kdItem xs ≤ 1048576) :
    Calls Tryz.prog 29 #[.slice A xs.length c] w fun e w' => ∃ A' c' fp, e = .returned (.slice A' xs.length c') ∧ LO kdItem 53 w' A' c' (lateL xs) fp ∧ (∀ i ∈ fp, w.heap.size ≤ i) ∧ Ext w w' := by
  have CI := hide (i.copyItems_any w A c B xs h hB hwt)
  have hlen := wtL_len kdItem xs
  have hn0 : xs.length ≤ 1048576 := by omega
  have a1 := h.1; have a2 := h.2.1
  have LA := hide (lateK_all xs)
  have LS := hide (fun (k : Nat) (x : ItD) (hx : xs[k]? = some x) => lateK_set xs hx)
  clear h hwt hlen
  obtain ⟨n, hn⟩ : ∃ n, Hid (xs.length = n) := ⟨_, rfl⟩
  rw [hn.out] at CI hn0 a1 LA LS ⊢
  go_enter Tryz.func29, Tryz.ntmps29
  go_wp2_with fail
  refine CI.out.mono ?_
  rintro e w1 ⟨A1, c1, fp, rfl, ho, hf, hx⟩
  have HO : Hid (LO kdItem 53 w1 A1 c1 (lateK xs 0) fp) := by rw [lateK_zero]; exact ho
  have HF := hide hf
  have HX := hide hx
  have cap := ho.cap
  rw [hn.out] at cap
  have ca1 := cap.1; have ca2 := cap.2
  clear ho hf hx CI cap
  go_wp2
  go_loopw [9] (fun i wr => ∃ (k : Nat), k ≤ n ∧ i = .int .i64 k ∧ LO kdItem 53 wr A1 c1 (lateK xs k) fp ∧ Ext w wr) (fun i _ => n - (intOf i).toNat)
  case atStart => exact ⟨0, Nat.zero_le _, rfl, HO.out, HX.out⟩
  case round =>
    obtain ⟨k, hk, rfl, ho, hx⟩ := hrel
    clear HO HX
    by_cases hlt : k < n
    · obtain ⟨x, hxk⟩ : ∃ x, Hid (xs[k]? = some x) := get_exP xs k (by rw [hn.out]; exact hlt)
      obtain ⟨g, cs, f, rfl, own, sub, mem, glt, cell, free, put⟩ := LO.put ho k x (lateK_at xs hxk.out)
      have gw := HF.out g mem
      have OL := kdItem.own_late own (decide ((n : Int) ≤ 2 * (k : Int)))
      have q2 : wr.cell? ⟨g, k * 3 + 2, none⟩ = some (.bool x.2.2) := cell 2 _ OL.1
      have qf := free (k * 3 + 2)
      have P2 := put wr 2 (.bool (decide ((n : Int) ≤ 2 * (k : Int)))) _ (by decide) OL.2 (TchF.refl _ _)
      have e2 : (x.1, x.2.1, decide ((n : Int) ≤ 2 * (k : Int))) = lateD n k x := rfl
      rw [e2, LS.out k x hxk.out] at P2
      have YX : Hid (Ext w (wr.setCell ⟨g, k * kdItem.size + 2, none⟩ (.bool (decide ((n : Int) ≤ 2 * (k : Int)))))) := Below.setCell hx (by simpa using gw) _
      have P2' : Hid (LO kdItem 53 (wr.setCell ⟨g, k * 3 + 2, none⟩ (.bool (decide ((n : Int) ≤ 2 * (k : Int))))) (some ⟨g, 0, none⟩) c1 (lateK xs (k + 1)) fp) := P2
      have YX' : Hid (Ext w (wr.setCell ⟨g, k * 3 + 2, none⟩ (.bool (decide ((n : Int) ≤ 2 * (k : Int)))))) := YX.out
      clear ho hx own sub cell free put OL P2 e2 YX
      have i1 : (k : Int) < n := by omega
      obtain ⟨T, hT⟩ : ∃ T, Hid (decide ((n : Int) ≤ 2 * (k : Int)) = T) := ⟨_, rfl⟩
      rw [hT.out] at P2' YX'
      have IL := hide (fun (wq : World) => i.isLateAt_any (k : Int) (n : Int) wq (by omega) (by omega) (by omega) (by omega))
      rw [hT.out] at IL
      clear hT
      go_wp2_with fail
      refine (IL.out _).mono ?_
      rintro e w5 ⟨rfl, rfl⟩
      clear IL
      go_wp2
      generalize wr.setCell ⟨g, k * 3 + 2, none⟩ (.bool T) = w6 at *
      go_roundw
      case rel => exact ⟨k + 1, by omega, by go_num, P2'.out, YX'.out⟩
      case measure => simp [intOf]; omega
    · have ek : n = k := by omega
      subst ek
      have HO := hide ho
      have HX := hide hx
      clear ho hx
      rw [LA.out] at HO
      go_wp2
      go_ret
      exact ⟨_, _, fp, rfl, HO.out, HF.out, HX.out⟩
set_option maxRecDepth 100000 in
set_option maxHeartbeats 2000000 in
theorem s.pgLate_m (w : World) (A : Option Addr) (c B : Nat) (xs : List ItD) (h : LR kdItem w B A c xs) (hB : B ≤ w.heap.size) (hwt : wtL kdItem xs ≤ 1048576) :
    Calls Tryz.prog 43 #[.slice A xs.length c] w fun e w' => ∃ A' c' fp, e = .returned (.slice A' xs.length c') ∧ LO kdItem 53 w' A' c' (lateL xs) fp ∧ (∀ i ∈ fp, w.heap.size ≤ i) ∧ Ext w w' := by
  have CI := hide (s.itOwn_any w A c B xs h hB hwt)
  have hlen := wtL_len kdItem xs
  have hn0 : xs.length ≤ 1048576 := by omega
  have a1 := h.1; have a2 := h.2.1
  have LA := hide (lateK_all xs)
  have LS := hide (fun (k : Nat) (x : ItD) (hx : xs[k]? = some x) => lateK_set xs hx)
  clear h hwt hlen
  obtain ⟨n, hn⟩ : ∃ n, Hid (xs.length = n) := ⟨_, rfl⟩
  rw [hn.out] at CI hn0 a1 LA LS ⊢
  go_enter Tryz.func43, Tryz.ntmps43
  go_wp2_with fail
  refine CI.out.mono ?_
  rintro e w1 ⟨A1, c1, fp, rfl, ho, hf, hx⟩
  have HO : Hid (LO kdItem 53 w1 A1 c1 (lateK xs 0) fp) := by rw [lateK_zero]; exact ho
  have HF := hide hf
  have HX := hide hx
  have cap := ho.cap
  rw [hn.out] at cap
  have ca1 := cap.1; have ca2 := cap.2
  clear ho hf hx CI cap
  go_wp2
  go_loopw [9] (fun i wr => ∃ (k : Nat), k ≤ n ∧ i = .int .i64 k ∧ LO kdItem 53 wr A1 c1 (lateK xs k) fp ∧ Ext w wr) (fun i _ => n - (intOf i).toNat)
  case atStart => exact ⟨0, Nat.zero_le _, rfl, HO.out, HX.out⟩
  case round =>
    obtain ⟨k, hk, rfl, ho, hx⟩ := hrel
    clear HO HX
    by_cases hlt : k < n
    · obtain ⟨x, hxk⟩ : ∃ x, Hid (xs[k]? = some x) := get_exP xs k (by rw [hn.out]; exact hlt)
      obtain ⟨g, cs, f, rfl, own, sub, mem, glt, cell, free, put⟩ := LO.put ho k x (lateK_at xs hxk.out)
      have gw := HF.out g mem
      have OL := kdItem.own_late own (decide ((n : Int) ≤ 2 * (k : Int)))
      have q2 : wr.cell? ⟨g, k * 3 + 2, none⟩ = some (.bool x.2.2) := cell 2 _ OL.1
      have qf := free (k * 3 + 2)
      have P2 := put wr 2 (.bool (decide ((n : Int) ≤ 2 * (k : Int)))) _ (by decide) OL.2 (TchF.refl _ _)
      have e2 : (x.1, x.2.1, decide ((n : Int) ≤ 2 * (k : Int))) = lateD n k x := rfl
      rw [e2, LS.out k x hxk.out] at P2
      have YX : Hid (Ext w (wr.setCell ⟨g, k * kdItem.size + 2, none⟩ (.bool (decide ((n : Int) ≤ 2 * (k : Int)))))) := Below.setCell hx (by simpa using gw) _
      have P2' : Hid (LO kdItem 53 (wr.setCell ⟨g, k * 3 + 2, none⟩ (.bool (decide ((n : Int) ≤ 2 * (k : Int))))) (some ⟨g, 0, none⟩) c1 (lateK xs (k + 1)) fp) := P2
      have YX' : Hid (Ext w (wr.setCell ⟨g, k * 3 + 2, none⟩ (.bool (decide ((n : Int) ≤ 2 * (k : Int)))))) := YX.out
      clear ho hx own sub cell free put OL P2 e2 YX
      have i1 : (k : Int) < n := by omega
      obtain ⟨T, hT⟩ : ∃ T, Hid (decide ((n : Int) ≤ 2 * (k : Int)) = T) := ⟨_, rfl⟩
      rw [hT.out] at P2' YX'
      cases T
      · have i2 : ¬ (n : Int) ≤ 2 * (k : Int) := by simpa using hT.out
        clear hT
        go_wp2
        generalize wr.setCell ⟨g, k * 3 + 2, none⟩ (.bool false) = w6 at *
        go_roundw
        case rel => exact ⟨k + 1, by omega, by go_num, P2'.out, YX'.out⟩
        case measure => simp [intOf]; omega
      · have i2 : (n : Int) ≤ 2 * (k : Int) := by simpa using hT.out
        clear hT
        go_wp2
        generalize wr.setCell ⟨g, k * 3 + 2, none⟩ (.bool true) = w6 at *
        go_roundw
        case rel => exact ⟨k + 1, by omega, by go_num, P2'.out, YX'.out⟩
        case measure => simp [intOf]; omega
    · have ek : n = k := by omega
      subst ek
      have HO := hide ho
      have HX := hide hx
      clear ho hx
      rw [LA.out] at HO
      go_wp2
      go_ret
      exact ⟨_, _, fp, rfl, HO.out, HF.out, HX.out⟩
end Go.Proofs.YtiohjcadmahkgaaGreat
