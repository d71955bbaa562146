/- Counted grades; the judges' totals. -/
import Derived.Test.YtnokilofcdbjhaaGreatDoorGM
namespace Go.Proofs.YtnokilofcdbjhaaGreatDoor
open Go.RowKit Go.Sort
set_option linter.unusedVariables false

/-- One cell of a list grows. -/
def accS (ix : Nat → Int → Nat) (ad : Int → Int) (j : Nat) (o : List Int) (x : Int) : List Int := o.set (ix j x) (o.getD (ix j x) 0 + ad x)
def accR (ix : Nat → Int → Nat) (ad : Int → Int) (row : List Int) (o : List Int) : Nat → List Int
  | 0 => o
  | j + 1 => accS ix ad j (accR ix ad row o j) (row.getD j 0)
def accA (ix : Nat → Int → Nat) (ad : Int → Int) (rows : List (List Int)) (o : List Int) : Nat → List Int
  | 0 => o
  | k + 1 => accR ix ad (rows.getD k []) (accA ix ad rows o k) (rows.getD k []).length
def AccI (N T : Nat) (o : List Int) : Prop := o.length = N ∧ ∀ i, 0 ≤ o.getD i 0 ∧ o.getD i 0 ≤ (T : Int)
theorem accS_inv {ix : Nat → Int → Nat} {ad : Int → Int} {N T j : Nat} {o : List Int} {x : Int} (h : AccI N T o) (hx : 0 ≤ ad x ∧ ad x ≤ 1000) : AccI N (T + 1000) (accS ix ad j o x) := by
  refine ⟨by simp [accS, h.1], fun i => ?_⟩
  have h1 := h.2 (ix j x)
  have h2 := h.2 i
  unfold accS
  generalize ix j x = q at *
  rw [List.getD_eq_getElem?_getD, List.getElem?_set]
  split
  · split
    · simp only [Option.getD_some]; omega
    · simp only [Option.getD_none]; omega
  · rw [← List.getD_eq_getElem?_getD]; omega
theorem accR_inv {ix : Nat → Int → Nat} {ad : Int → Int} {N T : Nat} {row o : List Int} (h : AccI N T o) (hr : ∀ z ∈ row, 0 ≤ ad z ∧ ad z ≤ 1000) : ∀ j, j ≤ row.length → AccI N (T + 1000 * j) (accR ix ad row o j)
  | 0, _ => h
  | j + 1, hj => by
    have h1 := accR_inv (ix := ix) h hr j (by omega)
    have h2 := accS_inv (ix := ix) (j := j) h1 (hr (row.getD j 0) (by rw [List.getD_eq_getElem?_getD, List.getElem?_eq_getElem (by omega)]; exact List.getElem_mem _))
    rw [show T + 1000 * (j + 1) = T + 1000 * j + 1000 by omega]
    exact h2
theorem accA_inv {ix : Nat → Int → Nat} {ad : Int → Int} {N : Nat} {rows : List (List Int)} {o : List Int} (h : AccI N 0 o) (hr : ∀ r ∈ rows, r.length ≤ 9 ∧ ∀ z ∈ r, 0 ≤ ad z ∧ ad z ≤ 1000) : ∀ k, k ≤ rows.length → AccI N (9000 * k) (accA ix ad rows o k)
  | 0, _ => h
  | k + 1, hk => by
    have hm : rows.getD k [] ∈ rows := by rw [List.getD_eq_getElem?_getD, List.getElem?_eq_getElem (by omega)]; exact List.getElem_mem _
    have h1 := accR_inv (ix := ix) (accA_inv (ix := ix) h hr k (by omega)) (hr _ hm).2 _ (Nat.le_refl _)
    exact ⟨h1.1, fun i => by have := h1.2 i; have h9 := (hr _ hm).1; exact ⟨this.1, by have h8 := this.2; simp only [accA]; omega⟩⟩
theorem accI_zero (N : Nat) : AccI N 0 (List.replicate N 0) := ⟨by simp, fun i => by
  rw [List.getD_eq_getElem?_getD, List.getElem?_replicate]
  split <;> simp⟩
theorem made_zero (n : Nat) : (madeCells #[Value.int .i64 0] n).toList = (List.replicate n (0 : Int)).map (Value.int .i64) := by
  have h := part_made (List.replicate n 0) n (by simp)
  rw [h]
  congr 1
  simp [part]

/-- A judge's grades add one each at their places. -/
def ixG (_ : Nat) (x : Int) : Nat := (x + 5).toNat
def adG (_ : Int) : Int := 1
def ixT (j : Nat) (_ : Int) : Nat := j
def adT (x : Int) : Int := x
def countGradesF (d : MD) : List Int × Bool := if marksB d then (accA ixG adG d.1 (List.replicate 11 0) d.1.length, true) else ([], false)
def judgeTotalsF (d : MD) : List Int × Bool := if marksB d then (accA ixT adT d.2 (List.replicate (judges d) 0) d.2.length, true) else ([], false)

set_option maxRecDepth 100000 in
set_option maxHeartbeats 2000000 in
theorem s.CountGrades_law (w : World) (v : Value) (d : MD) (h : kM.rd w v d) (hok : kM.ok d) :
    Calls Tryz.prog 10 #[v] w fun e w' => ∃ v0, e = .returned (.tuple #[v0, .bool (countGradesF d).2]) ∧ kI.fr w' w.heap.size w'.heap.size v0 (countGradesF d).1 ∧ kI.ok (countGradesF d).1 ∧ Ext w w' := by
  obtain ⟨A, c, A', c', rfl, h1, h2⟩ := kM.lr h
  have hok : kdM.wt d ≤ 1048576 := hok
  have H1 := hide h1
  have H2 := hide h2
  have a1 := h1.1; have a2 := h1.2.1; have a3 := h2.1; have a4 := h2.2.1
  clear h h1 h2
  obtain ⟨i0, hi, hz0, hz1, hz2⟩ := info_parts info_int
  have HZ := hide hz2
  have HI0 := hide hi
  have HZ0 := hide hz0
  have HZ1 := hide hz1
  clear hz2 hi hz0 hz1
  obtain ⟨n, hn⟩ : ∃ n, Hid (d.1.length = n) := ⟨_, rfl⟩
  obtain ⟨n', hn'⟩ : ∃ n', Hid (d.2.length = n') := ⟨_, rfl⟩
  rw [hn.out, hn'.out]
  rw [hn.out] at a1
  rw [hn'.out] at a3
  obtain ⟨W0, hW0⟩ : ∃ W0, Hid (W0 = w.alloc (.cells #[.slice A n c, .slice A' n' c'] 25)) := ⟨_, rfl⟩
  have X0 : Hid (Ext w W0) := by rw [hW0.out]; exact Ext.alloc w _
  have B0 : Hid (Blk W0 w.heap.size #[.slice A n c, .slice A' n' c'] 25) := by rw [hW0.out]; exact Blk.new rfl _ _
  obtain ⟨F, hF⟩ : ∃ F, Hid (countGradesF d = F) := ⟨_, rfl⟩
  rw [hF.out]
  go_enter Tryz.func10, Tryz.ntmps10
  go_wp2_with fail
  rw [← hW0.out]
  have hc := s.mkAll_any A A' c c' w.heap.size d W0 (H1.out.ext X0.out (Nat.le_refl _)) (H2.out.ext X0.out (Nat.le_refl _)) X0.out.size hok
  rw [hn.out, hn'.out] at hc
  refine hc.mono ?_
  rintro e w1 ⟨rfl, hx⟩
  have X1 := hide (X0.out.trans hx)
  replace B0 := hide (B0.out.ext hx)
  clear hx hc hW0
  cases hm : marksB d
  · have HM := hide hm
    clear hm
    go_wp2
    go_ret2
    have hf : F = ([], false) := by rw [← hF.out]; simp [countGradesF, HM.out]
    subst hf
    exact ⟨_, rfl, kI.fr_nil _ _ _ (Nat.le_refl _), Nat.zero_le _, X1.out⟩
  · have r1 := marksB_ok hm
    have h0 : 0 < d.2.length := by have := marksB_three hm; omega
    have hJ : judges d ≤ 9 := r1.2.2.2.1
    have hJ3 : 3 ≤ judges d := r1.2.2.1
    have l1 : n ≤ 14 := by have := r1.1; rw [hn.out] at this; exact this
    have l2 : n' ≤ 14 := by have := r1.2.1; rw [hn'.out] at this; omega
    have HM := hide hm
    obtain ⟨J, HJ⟩ : ∃ J, Hid (judges d = J) := ⟨_, rfl⟩
    rw [HJ.out] at hJ hJ3
    have HG : Hid (∀ r ∈ d.1, r.length ≤ 9 ∧ ∀ z ∈ r, 0 ≤ adG z ∧ adG z ≤ 1000) := fun r hr => ⟨by have := (r1.2.2.2.2.1 r hr).1; omega, fun z _ => by unfold adG; omega⟩
    have HG2 : Hid (∀ r ∈ d.1, ∀ z ∈ r, -5 ≤ z ∧ z ≤ 5) := fun r hr => (r1.2.2.2.2.1 r hr).2
    have hf : Hid (F = (accA ixG adG d.1 (List.replicate 11 0) n, true)) := by show _ = _; rw [← hF.out, ← hn.out]; simp [countGradesF, HM.out]
    clear hm r1 hF
    go_wp2_with (at_make; refine wpList_make_full _ rfl _ _ _ rfl (w.heap.size + 1) 3 i0 _ 1 Tryz.underlying31 HI0.out HZ0.out HZ1.out _ _ _ _ 11 rfl rfl rfl rfl ?c1 ?c2 ?c3 ?_)
    case c1 => rw [HZ.out]; omega
    case c2 => unfold maxLen; omega
    case c3 => exact B0.out.lt
    intro w2 hown hgrow
    have hgl : w.heap.size < w1.heap.size := B0.out.lt
    rw [made_zero] at hown
    have hb1 : Ext w1 w2 := (Ext.refl w1).grown hgrow (Nat.le_refl _) (by simp)
    have O1 : Hid (OwnI 3 w2 (w.heap.size + 1) (some ⟨w1.heap.size, 0, none⟩) 11 11 (List.replicate 11 0)) := hown
    replace X1 := hide (X1.out.trans hb1)
    replace B0 := hide (B0.out.ext hb1)
    clear hown hgrow hb1
    generalize w1.heap.size = g at *
    have cB := B0.out.cell
    go_wp2
    clear cB
    go_loopw [16] (fun i wr => ∃ k : Nat, k ≤ n ∧ i = .int .i64 k ∧ OwnI 3 wr (w.heap.size + 1) (some ⟨g, 0, none⟩) 11 11 (accA ixG adG d.1 (List.replicate 11 0) k) ∧ Ext w wr) (fun i _ => n - (intOf i).toNat)
    case atStart => exact ⟨0, Nat.zero_le _, rfl, O1.out, X1.out⟩
    case round =>
      obtain ⟨k, hk, rfl, hown, hx⟩ := hrel
      clear O1
      have O1 := hide hown
      have HX := hide hx
      clear hown hx
      by_cases hlt : k < n
      · obtain ⟨x, hxk⟩ : ∃ x, Hid (d.1[k]? = some x) := ⟨_, List.getElem?_eq_getElem (by rw [hn.out]; exact hlt)⟩
        have hgx := HG.out x (List.mem_of_getElem? hxk.out)
        have HX9 := hide hgx.2
        have hx9 := hgx.1
        have HX2 := hide (HG2.out x (List.mem_of_getElem? hxk.out))
        have HI := hide (accA_inv (ix := ixG) (accI_zero 11) HG.out k (by rw [hn.out]; exact hk))
        have HS : Hid (accA ixG adG d.1 (List.replicate 11 0) (k + 1) = accR ixG adG x (accA ixG adG d.1 (List.replicate 11 0) k) x.length) := by show _ = _; simp [accA, hxk.out]
        obtain ⟨b, off, Ak, ck, rfl, hb, hck0, hrk⟩ := H1.out.row (Ext.refl w) (Nat.le_refl _) hxk.out
        have hck : wr.cell? ⟨b, off + k, none⟩ = some (.slice Ak x.length ck) := by rw [HX.out.cell hb]; exact hck0
        have HRK := hide hrk
        have hz := hrk.1
        have hz' := hrk.2.1
        clear hrk hgx hck0
        obtain ⟨m, hm⟩ : ∃ m, Hid (x.length = m) := ⟨_, rfl⟩
        rw [hm.out] at hx9 hck hz
        generalize accA ixG adG d.1 (List.replicate 11 0) k = o at *
        go_wp2
        go_loopw [22] (fun i wr => ∃ j : Nat, j ≤ m ∧ i = .int .i64 j ∧ OwnI 3 wr (w.heap.size + 1) (some ⟨g, 0, none⟩) 11 11 (accR ixG adG x o j) ∧ Ext w wr) (fun i _ => m - (intOf i).toNat)
        case atStart => exact ⟨0, Nat.zero_le _, rfl, O1.out, HX.out⟩
        case round =>
          obtain ⟨j, hj, rfl, hown, hx⟩ := hrel
          clear O1 HX hck
          have O1 := hide hown
          have HX := hide hx
          clear hown hx
          by_cases hltj : j < m
          · have HI2 := hide (accR_inv (ix := ixG) HI.out HX9.out j (by rw [hm.out]; exact hj))
            have HS2 : Hid (accR ixG adG x o (j + 1) = accS ixG adG j (accR ixG adG x o j) (x.getD j 0)) := rfl
            obtain ⟨b2, off2, rfl, hb2, hc⟩ := (HRK.out.ext HX.out (Nat.le_refl _)).sl.cells (by rw [hm.out]; omega)
            have hcj := hc j (by rw [hm.out]; exact hltj)
            clear hc
            have hxm : x.getD j 0 ∈ x := by rw [List.getD_eq_getElem?_getD, List.getElem?_eq_getElem (by rw [hm.out]; exact hltj)]; exact List.getElem_mem _
            have hxa := HX9.out _ hxm
            have ha9 : (1000 : Int) * j ≤ 9000 := by omega
            have hxb := HX2.out _ hxm
            clear hxm
            generalize x.getD j 0 = y at *
            have hq0 : 0 ≤ y + 5 := by omega
            have hq1 : (y + 5).toNat < 11 := by omega
            have hcd := O1.out.cell (y + 5).toNat hq1
            have hfd := O1.out.free (y + 5).toNat
            have hob := HI2.out.2 (y + 5).toNat
            have HO := hide (O1.out.set (y + 5).toNat ((accR ixG adG x o j).getD (y + 5).toNat 0 + 1))
            have HS3 : Hid (accR ixG adG x o (j + 1) = (accR ixG adG x o j).set (y + 5).toNat ((accR ixG adG x o j).getD (y + 5).toNat 0 + 1)) := HS2.out
            clear HS2 HI2 O1
            have ho1 := hob.1
            have ho2 : (accR ixG adG x o j).getD (y + 5).toNat 0 ≤ 10000000 := by have := hob.2; omega
            clear hob
            generalize (accR ixG adG x o j).getD (y + 5).toNat 0 = t at *
            go_wp2
            go_roundw
            case rel => exact ⟨j + 1, by omega, by go_num, by rw [HS3.out]; exact HO.out, Below.setCell HX.out (by simp <;> omega) _⟩
            case measure => simp [intOf]; omega
          · have ej : j = m := by omega
            subst ej
            go_wp2
            go_roundw
            case rel => exact ⟨k + 1, by omega, by go_num, by rw [HS.out, hm.out]; exact O1.out, HX.out⟩
            case measure => simp [intOf]; omega
      · have ek : k = n := by omega
        subst ek
        go_wp2
        go_ret2
        rw [hf.out]
        have hl := OwnI.len O1.out
        have hlo := HX.out.size
        refine ⟨.slice (some ⟨g, 0, none⟩) 11 11, rfl, ⟨_, 11, by rw [hl], by rw [hl]; exact (O1.out.lower (Nat.le_succ _)).fr⟩, ?_, HX.out⟩
        show List.length _ ≤ _
        rw [hl]
        omega

set_option maxRecDepth 100000 in
set_option maxHeartbeats 2000000 in
theorem i.CountGrades_law (w : World) (v : Value) (d : MD) (h : kM.rd w v d) (hok : kM.ok d) :
    Calls Tryz.prog 9 #[v] w fun e w' => ∃ v0, e = .returned (.tuple #[v0, .bool (countGradesF d).2]) ∧ kI.fr w' w.heap.size w'.heap.size v0 (countGradesF d).1 ∧ kI.ok (countGradesF d).1 ∧ Ext w w' := by
  obtain ⟨A, c, A', c', rfl, h1, h2⟩ := kM.lr h
  have hok : kdM.wt d ≤ 1048576 := hok
  have H1 := hide h1
  have H2 := hide h2
  have a1 := h1.1; have a2 := h1.2.1; have a3 := h2.1; have a4 := h2.2.1
  clear h h1 h2
  obtain ⟨i0, hi, hz0, hz1, hz2⟩ := info_parts info_int
  have HZ := hide hz2
  have HI0 := hide hi
  have HZ0 := hide hz0
  have HZ1 := hide hz1
  clear hz2 hi hz0 hz1
  obtain ⟨n, hn⟩ : ∃ n, Hid (d.1.length = n) := ⟨_, rfl⟩
  obtain ⟨n', hn'⟩ : ∃ n', Hid (d.2.length = n') := ⟨_, rfl⟩
  rw [hn.out, hn'.out]
  rw [hn.out] at a1
  rw [hn'.out] at a3
  obtain ⟨W0, hW0⟩ : ∃ W0, Hid (W0 = w.alloc (.cells #[.slice A n c, .slice A' n' c'] 25)) := ⟨_, rfl⟩
  have X0 : Hid (Ext w W0) := by rw [hW0.out]; exact Ext.alloc w _
  have B0 : Hid (Blk W0 w.heap.size #[.slice A n c, .slice A' n' c'] 25) := by rw [hW0.out]; exact Blk.new rfl _ _
  obtain ⟨F, hF⟩ : ∃ F, Hid (countGradesF d = F) := ⟨_, rfl⟩
  rw [hF.out]
  go_enter Tryz.func9, Tryz.ntmps9
  go_wp2_with fail
  rw [← hW0.out]
  have hc := i.isMarks_any A A' c c' w.heap.size d W0 (H1.out.ext X0.out (Nat.le_refl _)) (H2.out.ext X0.out (Nat.le_refl _)) X0.out.size hok
  rw [hn.out, hn'.out] at hc
  refine hc.mono ?_
  rintro e w1 ⟨rfl, hx⟩
  have X1 := hide (X0.out.trans hx)
  replace B0 := hide (B0.out.ext hx)
  clear hx hc hW0
  cases hm : marksB d
  · have HM := hide hm
    clear hm
    go_wp2
    go_ret2
    have hf : F = ([], false) := by rw [← hF.out]; simp [countGradesF, HM.out]
    subst hf
    exact ⟨_, rfl, kI.fr_nil _ _ _ (Nat.le_refl _), Nat.zero_le _, X1.out⟩
  · have r1 := marksB_ok hm
    have h0 : 0 < d.2.length := by have := marksB_three hm; omega
    have hJ : judges d ≤ 9 := r1.2.2.2.1
    have hJ3 : 3 ≤ judges d := r1.2.2.1
    have l1 : n ≤ 14 := by have := r1.1; rw [hn.out] at this; exact this
    have l2 : n' ≤ 14 := by have := r1.2.1; rw [hn'.out] at this; omega
    have HM := hide hm
    obtain ⟨J, HJ⟩ : ∃ J, Hid (judges d = J) := ⟨_, rfl⟩
    rw [HJ.out] at hJ hJ3
    have HG : Hid (∀ r ∈ d.1, r.length ≤ 9 ∧ ∀ z ∈ r, 0 ≤ adG z ∧ adG z ≤ 1000) := fun r hr => ⟨by have := (r1.2.2.2.2.1 r hr).1; omega, fun z _ => by unfold adG; omega⟩
    have HG2 : Hid (∀ r ∈ d.1, ∀ z ∈ r, -5 ≤ z ∧ z ≤ 5) := fun r hr => (r1.2.2.2.2.1 r hr).2
    have hf : Hid (F = (accA ixG adG d.1 (List.replicate 11 0) n, true)) := by show _ = _; rw [← hF.out, ← hn.out]; simp [countGradesF, HM.out]
    clear hm r1 hF
    go_wp2_with (at_make; refine wpList_make_full _ rfl _ _ _ rfl (w.heap.size + 1) 3 i0 _ 1 Tryz.underlying31 HI0.out HZ0.out HZ1.out _ _ _ _ 11 rfl rfl rfl rfl ?c1 ?c2 ?c3 ?_)
    case c1 => rw [HZ.out]; omega
    case c2 => unfold maxLen; omega
    case c3 => exact B0.out.lt
    intro w2 hown hgrow
    have hgl : w.heap.size < w1.heap.size := B0.out.lt
    rw [made_zero] at hown
    have hb1 : Ext w1 w2 := (Ext.refl w1).grown hgrow (Nat.le_refl _) (by simp)
    have O1 : Hid (OwnI 3 w2 (w.heap.size + 1) (some ⟨w1.heap.size, 0, none⟩) 11 11 (List.replicate 11 0)) := hown
    replace X1 := hide (X1.out.trans hb1)
    replace B0 := hide (B0.out.ext hb1)
    clear hown hgrow hb1
    generalize w1.heap.size = g at *
    have cB := B0.out.cell
    go_wp2
    clear cB
    go_loopw [16] (fun i wr => ∃ k : Nat, k ≤ n ∧ i = .int .i64 k ∧ OwnI 3 wr (w.heap.size + 1) (some ⟨g, 0, none⟩) 11 11 (accA ixG adG d.1 (List.replicate 11 0) k) ∧ Ext w wr) (fun i _ => n - (intOf i).toNat)
    case atStart => exact ⟨0, Nat.zero_le _, rfl, O1.out, X1.out⟩
    case round =>
      obtain ⟨k, hk, rfl, hown, hx⟩ := hrel
      clear O1
      have O1 := hide hown
      have HX := hide hx
      clear hown hx
      by_cases hlt : k < n
      · obtain ⟨x, hxk⟩ : ∃ x, Hid (d.1[k]? = some x) := ⟨_, List.getElem?_eq_getElem (by rw [hn.out]; exact hlt)⟩
        have hgx := HG.out x (List.mem_of_getElem? hxk.out)
        have HX9 := hide hgx.2
        have hx9 := hgx.1
        have HX2 := hide (HG2.out x (List.mem_of_getElem? hxk.out))
        have HI := hide (accA_inv (ix := ixG) (accI_zero 11) HG.out k (by rw [hn.out]; exact hk))
        have HS : Hid (accA ixG adG d.1 (List.replicate 11 0) (k + 1) = accR ixG adG x (accA ixG adG d.1 (List.replicate 11 0) k) x.length) := by show _ = _; simp [accA, hxk.out]
        obtain ⟨b, off, Ak, ck, rfl, hb, hck0, hrk⟩ := H1.out.row (Ext.refl w) (Nat.le_refl _) hxk.out
        have hck : wr.cell? ⟨b, off + k, none⟩ = some (.slice Ak x.length ck) := by rw [HX.out.cell hb]; exact hck0
        have HRK := hide hrk
        have hz := hrk.1
        have hz' := hrk.2.1
        clear hrk hgx hck0
        obtain ⟨m, hm⟩ : ∃ m, Hid (x.length = m) := ⟨_, rfl⟩
        rw [hm.out] at hx9 hck hz
        generalize accA ixG adG d.1 (List.replicate 11 0) k = o at *
        go_wp2
        go_loopw [22] (fun i wr => ∃ j : Nat, j ≤ m ∧ i = .int .i64 j ∧ OwnI 3 wr (w.heap.size + 1) (some ⟨g, 0, none⟩) 11 11 (accR ixG adG x o j) ∧ Ext w wr) (fun i _ => m - (intOf i).toNat)
        case atStart => exact ⟨0, Nat.zero_le _, rfl, O1.out, HX.out⟩
        case round =>
          obtain ⟨j, hj, rfl, hown, hx⟩ := hrel
          clear O1 HX hck
          have O1 := hide hown
          have HX := hide hx
          clear hown hx
          by_cases hltj : j < m
          · have HI2 := hide (accR_inv (ix := ixG) HI.out HX9.out j (by rw [hm.out]; exact hj))
            have HS2 : Hid (accR ixG adG x o (j + 1) = accS ixG adG j (accR ixG adG x o j) (x.getD j 0)) := rfl
            obtain ⟨b2, off2, rfl, hb2, hc⟩ := (HRK.out.ext HX.out (Nat.le_refl _)).sl.cells (by rw [hm.out]; omega)
            have hcj := hc j (by rw [hm.out]; exact hltj)
            clear hc
            have hxm : x.getD j 0 ∈ x := by rw [List.getD_eq_getElem?_getD, List.getElem?_eq_getElem (by rw [hm.out]; exact hltj)]; exact List.getElem_mem _
            have hxa := HX9.out _ hxm
            have ha9 : (1000 : Int) * j ≤ 9000 := by omega
            have hxb := HX2.out _ hxm
            clear hxm
            generalize x.getD j 0 = y at *
            have hq0 : 0 ≤ y + 5 := by omega
            have hq1 : (y + 5).toNat < 11 := by omega
            have hcd := O1.out.cell (y + 5).toNat hq1
            have hfd := O1.out.free (y + 5).toNat
            have hob := HI2.out.2 (y + 5).toNat
            have HO := hide (O1.out.set (y + 5).toNat ((accR ixG adG x o j).getD (y + 5).toNat 0 + 1))
            have HS3 : Hid (accR ixG adG x o (j + 1) = (accR ixG adG x o j).set (y + 5).toNat ((accR ixG adG x o j).getD (y + 5).toNat 0 + 1)) := HS2.out
            clear HS2 HI2 O1
            have ho1 := hob.1
            have ho2 : (accR ixG adG x o j).getD (y + 5).toNat 0 ≤ 10000000 := by have := hob.2; omega
            clear hob
            generalize (accR ixG adG x o j).getD (y + 5).toNat 0 = t at *
            go_wp2
            go_roundw
            case rel => exact ⟨j + 1, by omega, by go_num, by rw [HS3.out]; exact HO.out, Below.setCell HX.out (by simp <;> omega) _⟩
            case measure => simp [intOf]; omega
          · have ej : j = m := by omega
            subst ej
            go_wp2
            go_roundw
            case rel => exact ⟨k + 1, by omega, by go_num, by rw [HS.out, hm.out]; exact O1.out, HX.out⟩
            case measure => simp [intOf]; omega
      · have ek : k = n := by omega
        subst ek
        go_wp2
        go_ret2
        rw [hf.out]
        have hl := OwnI.len O1.out
        have hlo := HX.out.size
        refine ⟨.slice (some ⟨g, 0, none⟩) 11 11, rfl, ⟨_, 11, by rw [hl], by rw [hl]; exact (O1.out.lower (Nat.le_succ _)).fr⟩, ?_, HX.out⟩
        show List.length _ ≤ _
        rw [hl]
        omega

end Go.Proofs.YtnokilofcdbjhaaGreatDoor
