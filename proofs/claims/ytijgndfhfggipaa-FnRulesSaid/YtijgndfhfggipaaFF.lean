/- MarkLate of both, over a list that is read. -/
import Derived.Test.YtijgndfhfggipaaFE
namespace Go.Proofs.Ytijgndfhfggipaa
open Go.RowKit Go.Sort
set_option linter.unusedVariables false

theorem wtL_map {α : Type} (K : Kd α) (ys : List α) : wtL K ys = (ys.map (fun x => 1 + K.wt x)).sum := by
  induction ys with
  | nil => rfl
  | cons y t ih =>
    show 1 + K.wt y + wtL K t = _
    rw [ih, List.map_cons, List.sum_cons]
theorem late_map {β : Type} (f : ItD → β) (hf : ∀ (n i : Nat) (x : ItD), f (lateD n i x) = f x) (xs : List ItD) : (lateL xs).map f = xs.map f := by
  refine List.ext_getElem (by rw [List.length_map, List.length_map, lateL_len]) (fun i hi hj => ?_)
  simp only [List.length_map] at hi hj
  rw [List.getElem_map, List.getElem_map]
  have h := lateL_at xs i hj
  rw [List.getElem?_eq_getElem hi, Option.some.injEq] at h
  rw [h, hf]
theorem wtL_late (xs : List ItD) : wtL kdItem (lateL xs) = wtL kdItem xs := by
  rw [wtL_map, wtL_map, late_map (fun x => 1 + kdItem.wt x) (fun n i x => by show 1 + kdItem.wt (lateD n i x) = 1 + kdItem.wt x; rw [kdItem.wt_eq, kdItem.wt_eq]; rfl)]
set_option maxRecDepth 100000 in
set_option maxHeartbeats 1000000 in
theorem i.MarkLate_c (w : World) (A : Option Addr) (c : Nat) (xs : List ItD) (hl : LR kdItem w w.heap.size A c xs) (hw : wtL kdItem xs ≤ 1048576) :
    Calls Try.prog 23 #[.slice A xs.length c] w fun e w' => ∃ A' n' c', e = .returned (.tuple #[.slice A' n' c', .bool (lateLaw xs).2]) ∧ (lateLaw xs).1.length = n' ∧ LR kdItem w' w'.heap.size A' c' (lateLaw xs).1 ∧ wtL kdItem (lateLaw xs).1 ≤ 1048576 ∧ Ext w w' := by
  have hlen := Nat.le_trans (wtL_len kdItem xs) hw
  have a1 := hl.1; have a2 := hl.2.1
  have hwt := hide (fun (k : Nat) (x : ItD) (hk : xs[k]? = some x) => Nat.le_trans (wtL_at kdItem xs k x hk) hw)
  have II := hide (i.AreItems_wk w A c w.heap.size xs hl (Nat.le_refl _) hlen hwt.out)
  have ML := hide (fun (wq : World) (xq : Ext w wq) => i.markLate_m wq A c w.heap.size xs (hl.ext xq (Nat.le_refl _)) xq.size hw)
  have W2 : Hid (wtL kdItem (lateL xs) ≤ 1048576) := by rw [wtL_late]; exact hw
  obtain ⟨F, hF⟩ : ∃ F, Hid (lateLaw xs = F) := ⟨_, rfl⟩
  rw [hF.out]
  clear hl hw hwt
  obtain ⟨n, hn⟩ : ∃ n, Hid (xs.length = n) := ⟨_, rfl⟩
  rw [hn.out] at a1 hlen II ML ⊢
  go_enter Try.func23, Try.ntmps23
  go_wp2_with fail
  refine II.out.mono ?_
  rintro e w1 ⟨rfl, x1⟩
  have X1 := hide x1
  clear x1 II
  cases h2 : itemsB xs
  · have HF : Hid (F = ([], false)) := by show _ = _; rw [← hF.out]; unfold lateLaw; rw [h2]; rfl
    clear h2 ML
    go_wp2
    go_ret2
    rw [HF.out]
    exact ⟨none, 0, 0, rfl, rfl, ⟨Nat.le_refl _, by omega, by simp⟩, Nat.zero_le _, X1.out⟩
  · have HF : Hid (F = (lateL xs, true)) := by show _ = _; rw [← hF.out]; unfold lateLaw; rw [h2]; rfl
    clear h2
    go_wp2_with fail
    refine (ML.out w1 X1.out).mono ?_
    rintro e w2 ⟨A', c', fp, rfl, ho, -, x2⟩
    have X2 := hide (X1.out.trans x2)
    have O2 := hide ho.rd
    clear x2 ho
    go_wp2
    go_ret2
    rw [HF.out]
    exact ⟨A', n, c', rfl, by rw [lateL_len]; exact hn.out, O2.out, W2.out, X2.out⟩

set_option maxRecDepth 100000 in
set_option maxHeartbeats 1000000 in
theorem s.MarkLate_c (w : World) (A : Option Addr) (c : Nat) (xs : List ItD) (hl : LR kdItem w w.heap.size A c xs) (hw : wtL kdItem xs ≤ 1048576) :
    Calls Try.prog 24 #[.slice A xs.length c] w fun e w' => ∃ A' n' c', e = .returned (.tuple #[.slice A' n' c', .bool (lateLaw xs).2]) ∧ (lateLaw xs).1.length = n' ∧ LR kdItem w' w'.heap.size A' c' (lateLaw xs).1 ∧ wtL kdItem (lateLaw xs).1 ≤ 1048576 ∧ Ext w w' := by
  have hlen := Nat.le_trans (wtL_len kdItem xs) hw
  have a1 := hl.1; have a2 := hl.2.1
  have hwt := hide (fun (k : Nat) (x : ItD) (hk : xs[k]? = some x) => Nat.le_trans (wtL_at kdItem xs k x hk) hw)
  have II := hide (s.itList_wk w A c w.heap.size xs hl (Nat.le_refl _) hlen hwt.out)
  have ML := hide (fun (wq : World) (xq : Ext w wq) => s.pgLate_m wq A c w.heap.size xs (hl.ext xq (Nat.le_refl _)) xq.size hw)
  have W2 : Hid (wtL kdItem (lateL xs) ≤ 1048576) := by rw [wtL_late]; exact hw
  obtain ⟨F, hF⟩ : ∃ F, Hid (lateLaw xs = F) := ⟨_, rfl⟩
  rw [hF.out]
  clear hl hw hwt
  obtain ⟨n, hn⟩ : ∃ n, Hid (xs.length = n) := ⟨_, rfl⟩
  rw [hn.out] at a1 hlen II ML ⊢
  go_enter Try.func24, Try.ntmps24
  go_wp2_with fail
  refine II.out.mono ?_
  rintro e w1 ⟨rfl, x1⟩
  have X1 := hide x1
  clear x1 II
  cases h2 : itemsB xs
  · have HF : Hid (F = ([], false)) := by show _ = _; rw [← hF.out]; unfold lateLaw; rw [h2]; rfl
    clear h2 ML
    go_wp2
    go_ret2
    rw [HF.out]
    exact ⟨none, 0, 0, rfl, rfl, ⟨Nat.le_refl _, by omega, by simp⟩, Nat.zero_le _, X1.out⟩
  · have HF : Hid (F = (lateL xs, true)) := by show _ = _; rw [← hF.out]; unfold lateLaw; rw [h2]; rfl
    clear h2
    go_wp2_with fail
    refine (ML.out w1 X1.out).mono ?_
    rintro e w2 ⟨A', c', fp, rfl, ho, -, x2⟩
    have X2 := hide (X1.out.trans x2)
    have O2 := hide ho.rd
    clear x2 ho
    go_wp2
    go_ret2
    rw [HF.out]
    exact ⟨A', n, c', rfl, by rw [lateL_len]; exact hn.out, O2.out, W2.out, X2.out⟩
end Go.Proofs.Ytijgndfhfggipaa
