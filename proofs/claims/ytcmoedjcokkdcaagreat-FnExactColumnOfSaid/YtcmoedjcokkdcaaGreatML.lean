/- Marks as the laws hand them about. -/
import Derived.Test.YtcmoedjcokkdcaaGreatGA
import Derived.Test.YtcmoedjcokkdcaaGreatMC
namespace Go.Proofs.YtcmoedjcokkdcaaGreat
open Go.RowKit Go.Sort
set_option linter.unusedVariables false

theorem cntLL_le (xs : List (List Int)) : kdLL.cnt xs ≤ kdLL.wt xs := by
  induction xs with
  | nil => exact Nat.le_refl _
  | cons x t ih =>
    have h1 : kdLL.cnt (x :: t) = cntL kdInt x + kdLL.cnt t := rfl
    have h2 : kdLL.wt (x :: t) = 1 + wtL kdInt x + kdLL.wt t := rfl
    rw [h1, h2, cntL_int, wtL_int]
    omega
theorem marksB_three {d : MD} (h : marksB d = true) : d.2.length = 3 := by
  simp [marksB] at h
  omega
theorem cntM_le (d : MD) : kdM.cnt d ≤ kdM.wt d := by
  have h1 := cntLL_le d.1
  have h2 := cntLL_le d.2
  have : kdM.cnt d = kdLL.cnt d.1 + kdLL.cnt d.2 := rfl
  have : kdM.wt d = kdLL.wt d.1 + kdLL.wt d.2 := rfl
  omega

def kM : Kind MD where
  rd w v d := ∃ vs, v = kdM.val vs ∧ kdM.rd w w.heap.size vs d
  fr w lo hi v d := ∃ vs fp, v = kdM.val vs ∧ kdM.own w vs d fp ∧ (∀ i ∈ fp, lo ≤ i ∧ i < hi)
  ok d := kdM.wt d ≤ 1048576
  mrk := kdM.mrk
  cnt := kdM.cnt
  rd_ext := by
    rintro w w' v d ⟨vs, rfl, h⟩ hx
    exact ⟨vs, rfl, kdM.rd_more (kdM.rd_ext h hx (Nat.le_refl _)) hx.size⟩
  fr_rd := by
    rintro w lo hi v d ⟨vs, fp, rfl, h, _⟩
    exact ⟨vs, rfl, kdM.own_rd h⟩
  fr_tch := by
    rintro w w' lo hi lo' hi' v d ⟨vs, fp, rfl, h, hf⟩ k hd
    refine ⟨vs, fp, rfl, kdM.own_keep h (fun i hi' => k.block i (kdM.own_lt h i hi') ?_), hf⟩
    have := hf i hi'
    omega
  ok_cnt := fun {d} h => Nat.le_trans (Nat.le_trans (cntM_le d) h) (by decide)

def kM.wt (d : MD) : Nat := kdM.wt d
theorem kM.ok_of {d : MD} (h : ¬ 1048576 < kM.wt d) : kM.ok d := Nat.le_of_not_lt h
/-- The shape of a value that reads as marks. -/
theorem kM.shape {w : World} {v : Value} {d : MD} (h : kM.rd w v d) : ∃ A n c A' n' c', v = .agg #[.slice A n c, .slice A' n' c'] := by
  obtain ⟨vs, rfl, h⟩ := h
  obtain ⟨A, c, A', c', rfl, _⟩ := kdM.open_ h
  exact ⟨A, _, c, A', _, c', rfl⟩
theorem kM.lr {w : World} {v : Value} {d : MD} (h : kM.rd w v d) : ∃ A c A' c', v = .agg #[.slice A d.1.length c, .slice A' d.2.length c'] ∧ LR kdL w w.heap.size A c d.1 ∧ LR kdL w w.heap.size A' c' d.2 := by
  obtain ⟨vs, rfl, h⟩ := h
  obtain ⟨A, c, A', c', rfl, h1, h2⟩ := kdM.open_ h
  exact ⟨A, c, A', c', rfl, h1, h2⟩

theorem kM.to : ToC Tryz.prog kM 11 := by
  rintro w v d ⟨vs, rfl, h⟩ hn
  refine (kdM.to_ _ _ d h hn).mono ?_
  rintro e w' ⟨vs', fp, rfl, ho, hf, hx⟩
  exact ⟨_, rfl, ⟨vs', fp, rfl, ho, fun i hi => ⟨hf i hi, kdM.own_lt ho i hi⟩⟩, hx⟩
theorem kM.eq : EqC Tryz.prog kM 16 := by
  rintro w v v' d ⟨vs, rfl, h⟩ ⟨vs', rfl, h'⟩ hn
  exact kdM.eq_ _ _ _ d h h' hn
theorem kM.mark : MarkC Tryz.prog kM 19 := by
  rintro w lo hi v d k ⟨vs, fp, rfl, h, hf⟩ hn hk0 hk1
  refine (kdM.mark _ _ d fp k h hn hk0 (by have := cntM_le d; have : kdM.wt d ≤ 1048576 := hn; omega)).mono ?_
  rintro e w' ⟨rfl, ho, hg⟩
  exact ⟨rfl, ⟨vs, fp, rfl, ho, hf⟩, TchF.tch hg hf⟩
theorem kM.sz (w : World) (v : Value) (d : MD) (h : kM.rd w v d) : Calls Tryz.prog 7 #[v, .int .i64 1048576] w fun e w' => e = .returned (.int .i64 (if (kM.wt d : Int) ≤ 1048576 then 1048576 - kM.wt d else -1)) ∧ Ext w w' := by
  obtain ⟨vs, rfl, h⟩ := h
  exact kdM.sz _ _ d _ h (by omega) (by omega)

/-! ### AreMarks -/
def areMarksF (d : MD) (z : Int) : Bool := marksB d && ((d.1.length : Int) == z)

set_option maxHeartbeats 1000000 in
theorem s.mkGood_m (w : World) (v : Value) (d : MD) (z : Int) (h : kM.rd w v d) (hok : kM.ok d) :
    Calls Tryz.prog 51 #[v, .int .i64 z] w fun e w' => e = .returned (.bool (areMarksF d z)) ∧ Ext w w' := by
  obtain ⟨A, c, A', c', rfl, h1, h2⟩ := kM.lr h
  have hok : kdM.wt d ≤ 1048576 := hok
  obtain ⟨R, hR⟩ : ∃ R, Hid (areMarksF d z = R) := ⟨_, rfl⟩
  rw [hR.out]
  have H1 := hide h1
  have H2 := hide h2
  clear h h1 h2
  obtain ⟨n, hn⟩ : ∃ n, Hid (d.1.length = n) := ⟨_, rfl⟩
  obtain ⟨n', hn'⟩ : ∃ n', Hid (d.2.length = n') := ⟨_, rfl⟩
  rw [hn.out, hn'.out]
  obtain ⟨W0, hW0⟩ : ∃ W0, Hid (W0 = w.alloc (.cells #[.slice A n c, .slice A' n' c'] 41)) := ⟨_, rfl⟩
  have X0 : Hid (Ext w W0) := by rw [hW0.out]; exact Ext.alloc w _
  have B0 : Hid (Blk W0 w.heap.size #[.slice A n c, .slice A' n' c'] 41) := by rw [hW0.out]; exact Blk.new rfl _ _
  go_enter Tryz.func51, Tryz.ntmps51
  go_wp2_with fail
  rw [← hW0.out]
  have hc := s.mkAll_any A A' c c' w.heap.size d W0 (H1.out.ext X0.out (Nat.le_refl _)) (H2.out.ext X0.out (Nat.le_refl _)) X0.out.size hok
  rw [hn.out, hn'.out] at hc
  refine hc.mono ?_
  rintro e w1 ⟨rfl, hx⟩
  have X1 := hide (X0.out.trans hx)
  replace B0 := hide (B0.out.ext hx)
  clear hx hc hW0
  have cB := B0.out.cell
  cases hm : marksB d
  · have HM := hide hm
    clear hm
    go_wp2
    go_ret
    exact ⟨ret_bool (by rw [← hR.out]; simp [areMarksF, HM.out]), X1.out⟩
  · have HM := hide hm
    clear hm
    go_wp2
    go_ret
    exact ⟨ret_bool (by rw [← hR.out]; simp [areMarksF, HM.out, hn.out]), X1.out⟩

set_option maxHeartbeats 1000000 in
theorem i.AreMarks_m (w : World) (v : Value) (d : MD) (z : Int) (h : kM.rd w v d) (hok : kM.ok d) :
    Calls Tryz.prog 86 #[v, .int .i64 z] w fun e w' => e = .returned (.bool (areMarksF d z)) ∧ Ext w w' := by
  obtain ⟨A, c, A', c', rfl, h1, h2⟩ := kM.lr h
  have hok : kdM.wt d ≤ 1048576 := hok
  obtain ⟨R, hR⟩ : ∃ R, Hid (areMarksF d z = R) := ⟨_, rfl⟩
  rw [hR.out]
  have H1 := hide h1
  have H2 := hide h2
  clear h h1 h2
  obtain ⟨n, hn⟩ : ∃ n, Hid (d.1.length = n) := ⟨_, rfl⟩
  obtain ⟨n', hn'⟩ : ∃ n', Hid (d.2.length = n') := ⟨_, rfl⟩
  rw [hn.out, hn'.out]
  obtain ⟨W0, hW0⟩ : ∃ W0, Hid (W0 = w.alloc (.cells #[.slice A n c, .slice A' n' c'] 41)) := ⟨_, rfl⟩
  have X0 : Hid (Ext w W0) := by rw [hW0.out]; exact Ext.alloc w _
  have B0 : Hid (Blk W0 w.heap.size #[.slice A n c, .slice A' n' c'] 41) := by rw [hW0.out]; exact Blk.new rfl _ _
  go_enter Tryz.func86, Tryz.ntmps86
  go_wp2_with fail
  rw [← hW0.out]
  have hc := i.isMarks_any A A' c c' w.heap.size d W0 (H1.out.ext X0.out (Nat.le_refl _)) (H2.out.ext X0.out (Nat.le_refl _)) X0.out.size hok
  rw [hn.out, hn'.out] at hc
  refine hc.mono ?_
  rintro e w1 ⟨rfl, hx⟩
  have X1 := hide (X0.out.trans hx)
  replace B0 := hide (B0.out.ext hx)
  clear hx hc hW0
  have cB := B0.out.cell
  cases hm : marksB d
  · have HM := hide hm
    clear hm
    go_wp2
    go_ret
    exact ⟨ret_bool (by rw [← hR.out]; simp [areMarksF, HM.out]), X1.out⟩
  · have HM := hide hm
    clear hm
    go_wp2
    go_ret
    exact ⟨ret_bool (by rw [← hR.out]; simp [areMarksF, HM.out, hn.out]), X1.out⟩

theorem i.AreMarks_law (w : World) (v : Value) (d : MD) (z : Int) (h : kM.rd w v d) (hok : kM.ok d) (hz : InR z) :
    Calls Tryz.prog 86 #[v, .int .i64 z] w fun e w' => e = .returned (.bool (areMarksF d z)) ∧ Ext w w' := i.AreMarks_m w v d z h hok
/-! ### JudgesOf -/
def judgesOfF (d : MD) : Int × Bool := if marksB d then ((judges d : Int), true) else (0, false)
end Go.Proofs.YtcmoedjcokkdcaaGreat
