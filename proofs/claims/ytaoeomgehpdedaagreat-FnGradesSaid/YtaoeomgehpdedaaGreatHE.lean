/- What was drawn, read: a code, a list, marks; what the laws on scores call, over it. -/
import Derived.Test.YtaoeomgehpdedaaGreatHC
import Derived.Test.YtaoeomgehpdedaaGreatHD
import Derived.Test.YtaoeomgehpdedaaGreatFC
import Derived.Test.YtaoeomgehpdedaaGreatGH
namespace Go.Proofs.YtaoeomgehpdedaaGreat
open Go.RowKit Go.Sort
set_option linter.unusedVariables false

structure Dj (w1 : World) (v : Value) (A : Option Addr) (c : Nat) (vm : Value) (d : CoD) (xs : List ItD) (m : MD) : Prop where
  rd : kC.rd w1 v d
  ok : kC.ok d
  lr : LR kdItem w1 w1.heap.size A c xs
  wt : wtL kdItem xs ≤ 1048576
  rm : kM.rd w1 vm m
  om : kM.ok m
theorem Dj.ext {w1 w2 : World} {v vm : Value} {A : Option Addr} {c : Nat} {d : CoD} {xs : List ItD} {m : MD} (h : Dj w1 v A c vm d xs m) (k : Ext w1 w2) : Dj w2 v A c vm d xs m :=
  ⟨kC.rd_ext h.rd k, h.ok, (h.lr.ext k (Nat.le_refl _)).more k.size, h.wt, kM.rd_ext h.rm k, h.om⟩
theorem dj_of {lo : Nat} {w : World} {v vm : Value} {A : Option Addr} {n c : Nat} {m : MD} (hc : CoR lo w v) (hl : LsR lo w A n c) (hm : RdA kM lo w vm m) (om : kM.ok m) : ∃ d xs, Dj w v A c vm d xs m ∧ xs.length = n := by
  obtain ⟨d, h1, h2⟩ := hc
  obtain ⟨xs, h3, h4, _, h5⟩ := hl
  exact ⟨d, xs, ⟨h2 w (Since.refl _ _), h1, h5 w (Since.refl _ _), h4, hm.rd, om⟩, h3⟩
theorem Dj.kit {w : World} {v vm : Value} {A : Option Addr} {c : Nat} {d : CoD} {xs : List ItD} {m : MD} (h : Dj w v A c vm d xs m) : kIt.rd w (.slice A xs.length c) xs := ⟨_, rfl, ⟨A, c, rfl, h.lr⟩⟩
/-- A list of numbers in memory, its length known. -/
structure NumJ (w : World) (A : Option Addr) (n c : Nat) (zs : List Int) : Prop where
  sl : SlI w w.heap.size A n zs
  cap : n ≤ c
  capm : c ≤ 9223372036854775807
theorem NumJ.ext {w w' : World} {A : Option Addr} {n c : Nat} {zs : List Int} (h : NumJ w A n c zs) (k : Ext w w') : NumJ w' A n c zs := ⟨(SlI.ext h.sl k (Nat.le_refl _)).more k.size, h.cap, h.capm⟩
theorem NumJ.same {w : World} {A A' : Option Addr} {n c c' : Nat} {zs : List Int} (h : NumJ w A n c zs) (h' : NumJ w A' n c' zs) (hn : n ≤ 1048576) : Calls Tryz.prog 17 #[.slice A n c, .slice A' n c'] w fun e w' => e = .returned (.bool true) ∧ Ext w w' :=
  l.qInts_same A A' n c c' _ _ zs w h.sl h'.sl hn
def scS (d : CoD) (xs : List ItD) (m : MD) : List Int := (itemScoresF d xs m).1
theorem sc_ok (d : CoD) (xs : List ItD) (m : MD) : (itemScoresF d xs m).2 = judgedB d xs m := by
  unfold itemScoresF; cases judgedB d xs m <;> rfl
theorem sum_ok (d : CoD) (xs : List ItD) (m : MD) : (itemSumF d xs m).2 = judgedB d xs m := by
  unfold itemSumF; cases judgedB d xs m <;> rfl
theorem scS_len (d : CoD) (xs : List ItD) (m : MD) : (scS d xs m).length ≤ xs.length := by
  unfold scS itemScoresF
  cases judgedB d xs m
  · exact Nat.zero_le _
  · exact Nat.le_of_eq (scoresN_len d xs m _)
theorem scS_yes {d : CoD} {xs : List ItD} {m : MD} (h : judgedB d xs m = true) : scS d xs m = scoresN d xs m xs.length ∧ (scS d xs m).length = xs.length := by
  unfold scS itemScoresF; rw [if_pos h]; exact ⟨rfl, scoresN_len d xs m _⟩
section
variable {w : World} {v vm : Value} {A : Option Addr} {c N : Nat} {d : CoD} {xs : List ItD} {m : MD} {J : Bool}
theorem Dj.iScores (h : Dj w v A c vm d xs m) (hN : xs.length = N) (hJ : judgedB d xs m = J) : Calls Tryz.prog 6 #[v, .slice A N c, vm] w fun e w' => ∃ A' n' c', e = .returned (.tuple #[.slice A' n' c', .bool J]) ∧ (scS d xs m).length = n' ∧ NumJ w' A' n' c' (scS d xs m) ∧ Ext w w' := by
  subst hN hJ
  refine (i.ItemScores_law w v _ vm d xs m h.rd h.ok h.kit h.wt h.rm h.om).mono ?_
  rintro e w' ⟨v0, rfl, hf, hok, hx⟩
  rw [sc_ok]
  obtain ⟨A', c', rfl, h1, h2, h3⟩ := kI.fr_rd hf
  exact ⟨A', _, c', rfl, rfl, ⟨h1, h2, h3⟩, hx⟩
theorem Dj.iSum (h : Dj w v A c vm d xs m) (hN : xs.length = N) (hJ : judgedB d xs m = J) : Calls Tryz.prog 8 #[v, .slice A N c, vm] w fun e w' => e = .returned (.tuple #[.int .i64 (itemSumF d xs m).1, .bool J]) ∧ Ext w w' := by
  subst hN hJ
  rw [← sum_ok]
  exact i.ItemSum_law w v _ vm d xs m h.rd h.ok h.kit h.wt h.rm h.om
theorem Dj.iBest (h : Dj w v A c vm d xs m) (hN : xs.length = N) : Calls Tryz.prog 10 #[v, .slice A N c, vm] w fun e w' => e = .returned (.tuple #[.int .i64 (bestItemF d xs m).1, .bool (bestItemF d xs m).2]) ∧ Ext w w' := by
  subst hN
  exact i.BestItem_law w v _ vm d xs m h.rd h.ok h.kit h.wt h.rm h.om
theorem Dj.iWas (h : Dj w v A c vm d xs m) (hN : xs.length = N) (hJ : judgedB d xs m = J) : Calls Tryz.prog 12 #[v, .slice A N c, vm] w fun e w' => e = .returned (.tuple #[.bool J, .bool (areJudgedF d xs m).2]) ∧ Ext w w' := by
  subst hN hJ
  rw [← judged_was]
  exact i.AreJudged_law w v _ vm d xs m h.rd h.ok h.kit h.wt h.rm h.om
theorem Dj.iPts (h : Dj w v A c vm d xs m) (hN : xs.length = N) (k : Int) (hk : InR k) : Calls Tryz.prog 15 #[v, .slice A N c, vm, .int .i64 k] w fun e w' => e = .returned (.tuple #[.int .i64 (gradePointsF d xs m k).1, .bool (gradePointsF d xs m k).2]) ∧ Ext w w' := by
  subst hN
  exact i.GradePoints_law w v _ vm d xs m k h.rd h.ok h.kit h.wt h.rm h.om hk
theorem Dj.iScore (h : Dj w v A c vm d xs m) (hN : xs.length = N) (k : Int) (hk : InR k) : Calls Tryz.prog 19 #[v, .slice A N c, vm, .int .i64 k] w fun e w' => e = .returned (.tuple #[.int .i64 (itemScoreF d xs m k).1, .bool (itemScoreF d xs m k).2]) ∧ Ext w w' := by
  subst hN
  exact i.ItemScore_law w v _ vm d xs m k h.rd h.ok h.kit h.wt h.rm h.om hk

theorem Dj.sScores (h : Dj w v A c vm d xs m) (hN : xs.length = N) (hJ : judgedB d xs m = J) : Calls Tryz.prog 7 #[v, .slice A N c, vm] w fun e w' => ∃ A' n' c', e = .returned (.tuple #[.slice A' n' c', .bool J]) ∧ (scS d xs m).length = n' ∧ NumJ w' A' n' c' (scS d xs m) ∧ Ext w w' := by
  subst hN hJ
  refine (s.ItemScores_law w v _ vm d xs m h.rd h.ok h.kit h.wt h.rm h.om).mono ?_
  rintro e w' ⟨v0, rfl, hf, hok, hx⟩
  rw [sc_ok]
  obtain ⟨A', c', rfl, h1, h2, h3⟩ := kI.fr_rd hf
  exact ⟨A', _, c', rfl, rfl, ⟨h1, h2, h3⟩, hx⟩
theorem Dj.sSum (h : Dj w v A c vm d xs m) (hN : xs.length = N) (hJ : judgedB d xs m = J) : Calls Tryz.prog 9 #[v, .slice A N c, vm] w fun e w' => e = .returned (.tuple #[.int .i64 (itemSumF d xs m).1, .bool J]) ∧ Ext w w' := by
  subst hN hJ
  rw [← sum_ok]
  exact s.ItemSum_law w v _ vm d xs m h.rd h.ok h.kit h.wt h.rm h.om
theorem Dj.sBest (h : Dj w v A c vm d xs m) (hN : xs.length = N) : Calls Tryz.prog 11 #[v, .slice A N c, vm] w fun e w' => e = .returned (.tuple #[.int .i64 (bestItemF d xs m).1, .bool (bestItemF d xs m).2]) ∧ Ext w w' := by
  subst hN
  exact s.BestItem_law w v _ vm d xs m h.rd h.ok h.kit h.wt h.rm h.om
theorem Dj.sWas (h : Dj w v A c vm d xs m) (hN : xs.length = N) (hJ : judgedB d xs m = J) : Calls Tryz.prog 13 #[v, .slice A N c, vm] w fun e w' => e = .returned (.tuple #[.bool J, .bool (areJudgedF d xs m).2]) ∧ Ext w w' := by
  subst hN hJ
  rw [← judged_was]
  exact s.AreJudged_law w v _ vm d xs m h.rd h.ok h.kit h.wt h.rm h.om
theorem Dj.sPts (h : Dj w v A c vm d xs m) (hN : xs.length = N) (k : Int) (hk : InR k) : Calls Tryz.prog 16 #[v, .slice A N c, vm, .int .i64 k] w fun e w' => e = .returned (.tuple #[.int .i64 (gradePointsF d xs m k).1, .bool (gradePointsF d xs m k).2]) ∧ Ext w w' := by
  subst hN
  exact s.GradePoints_law w v _ vm d xs m k h.rd h.ok h.kit h.wt h.rm h.om hk
theorem Dj.sScore (h : Dj w v A c vm d xs m) (hN : xs.length = N) (k : Int) (hk : InR k) : Calls Tryz.prog 32 #[v, .slice A N c, vm, .int .i64 k] w fun e w' => e = .returned (.tuple #[.int .i64 (itemScoreF d xs m k).1, .bool (itemScoreF d xs m k).2]) ∧ Ext w w' := by
  subst hN
  exact s.ItemScore_law w v _ vm d xs m k h.rd h.ok h.kit h.wt h.rm h.om hk
theorem Dj.iBase (h : Dj w v A c vm d xs m) (hN : xs.length = N) (hg : goodB d xs = true) {k : Nat} (hk : k < N) : Calls Tryz.prog 18 #[v, .slice A N c, .int .i64 k] w fun e w' => e = .returned (.tuple #[.int .i64 (baseF d xs k), .bool true]) ∧ Ext w w' := by
  subst hN
  exact i.ItemBase_v w v d A c xs k h.rd h.ok h.lr h.wt hg hk
end
/-- What is asked of an item's grade points. -/
theorem seven_law {d : CoD} {xs : List ItD} {m : MD} {k : Int} (h : (gradePointsF d xs m k).2 = true) : ∃ q : Nat, k = q ∧ q < xs.length ∧ goodB d xs = true ∧ itemScoreF d xs m k = (baseF d xs q + (gradePointsF d xs m k).1, true) ∧ unitLaw d (xs.getD q noItem) = (unitF d (xs.getD q noItem), true) ∧
    0 ≤ unitF d (xs.getD q noItem) ∧ unitF d (xs.getD q noItem) ≤ 2000 ∧ 0 ≤ baseF d xs q ∧ baseF d xs q ≤ 100000 ∧ -300000000 ≤ (gradePointsF d xs m k).1 ∧ (gradePointsF d xs m k).1 ≤ 300000000 ∧ 2 * (gradePointsF d xs m k).1 ≤ unitF d (xs.getD q noItem) + 1 ∧ -(2 * (gradePointsF d xs m k).1) ≤ unitF d (xs.getD q noItem) + 1 ∧ (baseF d xs q = 0 → (gradePointsF d xs m k).1 = 0) := by
  unfold gradePointsF itemScoreF at *
  split at h
  · next hj =>
    obtain ⟨h1, h2, h3⟩ := has_two hj
    obtain ⟨g1, g2, g3⟩ := judged_good h1
    have jo := jOk h1
    obtain ⟨q, rfl⟩ : ∃ q : Nat, k = q := ⟨k.toNat, by omega⟩
    have hq : q < xs.length := by omega
    obtain ⟨x, hx, he, hgm⟩ := jo.grades hq
    have pu := pointF_unit jo hq
    have pb := pointF_bd jo.co xs q hgm
    rw [← he] at pb
    have ub := unitN_bd jo.co (xs.getD q noItem) (xs.getD q noItem).1.length
    have bb := baseF_bd jo.co jo.ls q
    have hxm : xs.getD q noItem ∈ xs := by rw [List.getD_eq_getElem?_getD, List.getElem?_eq_getElem hq]; exact List.getElem_mem _
    have ib : itemB (xs.getD q noItem) = true := by
      simp only [itemsB, Bool.and_eq_true, List.all_eq_true] at g2
      exact g2.1 _ hxm
    have kb : knownI d.1 (xs.getD q noItem) = true := by
      simp only [knownB, List.all_eq_true] at g3
      exact g3 _ hxm
    refine ⟨q, rfl, hq, by unfold goodB; rw [g1, g2, g3]; rfl, ?_, ?_, ub.1, ?_, bb.1, ?_, ?_, ?_, ?_, ?_, ?_⟩
    · rw [if_pos hj, if_pos hj]; rfl
    · unfold unitLaw; rw [g1, ib, kb]; rfl
    · have := ub.2; show unitF d _ ≤ 2000; unfold unitF; omega
    · have := bb.2; omega
    · rw [if_pos hj]; exact pb.1
    · rw [if_pos hj]; exact pb.2
    · rw [if_pos hj]; exact pu.1
    · rw [if_pos hj]; exact pu.2.1
    · rw [if_pos hj]; exact pu.2.2
  · simp at h
/-- The best item's score tops all. -/
theorem best_law {d : CoD} {xs : List ItD} {m : MD} (h : judgedB d xs m = true) (h0 : 0 < xs.length) : ∃ q : Nat, bestItemF d xs m = ((q : Int), true) ∧ q < xs.length ∧ ∀ i, i < xs.length → ¬ (scS d xs m).getD q 0 < (scS d xs m).getD i 0 ∧ ((scS d xs m).getD i 0 = (scS d xs m).getD q 0 → ¬ i < q) := by
  have hz : ((xs.length : Int) == 0) = false := beq_false_of_ne (by omega)
  refine ⟨bestN d xs m xs.length, ?_, bestN_lt d xs m (Nat.le_refl _) h0, fun i hi => ?_⟩
  · unfold bestItemF; rw [h, hz]; rfl
  · have hb := bestN_lt d xs m (Nat.le_refl xs.length) h0
    have ht := best_top d xs m xs.length i hi
    rw [(scS_yes h).1, scoresN_at d xs m hb, scoresN_at d xs m hi]
    exact ⟨by omega, fun e hl => by have := ht.2 hl; omega⟩
theorem best_ok (d : CoD) (xs : List ItD) (m : MD) : (bestItemF d xs m).2 = (judgedB d xs m && !((xs.length : Int) == 0)) := by
  unfold bestItemF
  cases (judgedB d xs m && !((xs.length : Int) == 0)) <;> rfl
theorem sum_law {d : CoD} {xs : List ItD} {m : MD} (h : judgedB d xs m = true) : (itemSumF d xs m).1 = (scS d xs m).sum ∧ Small (scS d xs m) := by
  rw [(scS_yes h).1]
  refine ⟨by unfold itemSumF; rw [if_pos h], scoresN_small (jOk h) (Nat.le_refl _)⟩
set_option maxHeartbeats 1000000 in
theorem l.qAbs_m (z : Int) (w : World) (h : -1000000000 ≤ z ∧ z ≤ 1000000000) : Calls Tryz.prog 22 #[.int .i64 z] w fun e w' => ∃ a : Int, e = .returned (.int .i64 a) ∧ (a = z ∨ a = -z) ∧ 0 ≤ a ∧ a ≤ 1000000000 ∧ w' = w := by
  obtain ⟨h1, h2⟩ := h
  by_cases hz : z < 0
  · go_enter Tryz.func22, Tryz.ntmps22
    go_wp2
    go_ret
    exact ⟨-z, rfl, .inr rfl, by omega, by omega, rfl⟩
  · go_enter Tryz.func22, Tryz.ntmps22
    go_wp2
    go_ret
    exact ⟨z, rfl, .inl rfl, by omega, by omega, rfl⟩
end Go.Proofs.YtaoeomgehpdedaaGreat
