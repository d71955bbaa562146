/- What the law of marks calls, over marks and numbers that are read. -/
import Derived.Test.YtnokilofcdbjhaaGreatDoorJO
import Derived.Test.YtnokilofcdbjhaaGreatDoorDH
import Derived.Test.YtnokilofcdbjhaaGreatDoorFC
import Derived.Test.YtnokilofcdbjhaaGreatDoorMT
import Derived.Test.YtnokilofcdbjhaaGreatDoorXD
import Derived.Test.YtnokilofcdbjhaaGreatDoorXF
import Derived.Test.YtnokilofcdbjhaaGreatDoorXS
import Derived.Test.YtnokilofcdbjhaaGreatDoorXQ
namespace Go.Proofs.YtnokilofcdbjhaaGreatDoor
open Go.RowKit Go.Sort
set_option linter.unusedVariables false

/-- Marks that are read. -/
structure Mq (w : World) (v : Value) (d : MD) : Prop where
  rd : kM.rd w v d
  ok : kM.ok d
/-- Numbers that are read. -/
structure Nq (w : World) (v : Value) (zs : List Int) : Prop where
  rd : kI.rd w v zs
  ok : kI.ok zs
section
variable {w w' : World} {v v' : Value} {d d' D : MD} {J : Bool} {Z z : Int} {S : List UInt8} {zs gs cs : List Int}
theorem Mq.ext (h : Mq w v d) (x : Ext w w') : Mq w' v d := ⟨kM.rd_ext h.rd x, h.ok⟩
theorem Nq.ext (h : Nq w v zs) (x : Ext w w') : Nq w' v zs := ⟨kI.rd_ext h.rd x, h.ok⟩
theorem mq_rd (h : kM.rd w v d) (ok : kM.ok d) : ∃ A n c A' n' c', v = .agg #[.slice A n c, .slice A' n' c'] ∧ Mq w (.agg #[.slice A n c, .slice A' n' c']) d := by
  obtain ⟨A, n, c, A', n', c', rfl⟩ := kM.shape h
  exact ⟨A, n, c, A', n', c', rfl, h, ok⟩
theorem nq_rd (h : kI.rd w v zs) (ok : kI.ok zs) : ∃ A n c, v = .slice A n c ∧ Nq w (.slice A n c) zs := by
  have h2 := h
  obtain ⟨A, c, rfl, -⟩ := h2
  exact ⟨A, _, c, rfl, h, ok⟩
/-- The number of items that marks hold. -/
theorem Mq.items {A A' : Option Addr} {n c n' c' : Nat} (h : Mq w (.agg #[.slice A n c, .slice A' n' c']) d) : n = d.1.length := by
  obtain ⟨B, e, B', e', hv, -⟩ := kM.lr h.rd
  simp only [Value.agg.injEq, Array.mk.injEq, List.cons.injEq, Value.slice.injEq] at hv
  exact hv.1.2.1
theorem Mq.iText (h : Mq w v d) (ht : Tab10 w) (hS : (marksTextF d).1 = S) (hJ : (marksTextF d).2 = J) : Calls Tryz.prog 5 #[v] w fun e w' => e = .returned (.tuple #[.string (bs S), .bool J]) ∧ Ext w w' := by
  subst hS hJ
  exact i.MarksText_m w v d h.rd h.ok ht
theorem Mq.sText (h : Mq w v d) (hS : (marksTextF d).1 = S) (hJ : (marksTextF d).2 = J) : Calls Tryz.prog 6 #[v] w fun e w' => e = .returned (.tuple #[.string (bs S), .bool J]) ∧ Ext w w' := by
  subst hS hJ
  exact s.MarksText_law w v d h.rd h.ok
theorem Mq.iJudges (h : Mq w v d) (hZ : (judgesOfF d).1 = Z) (hJ : (judgesOfF d).2 = J) : Calls Tryz.prog 7 #[v] w fun e w' => e = .returned (.tuple #[.int .i64 Z, .bool J]) ∧ Ext w w' := by
  subst hZ hJ
  exact i.JudgesOf_law w v d h.rd h.ok
theorem Mq.iCount (h : Mq w v d) (hZ : (countGradesF d).1 = zs) (hJ : (countGradesF d).2 = J) : Calls Tryz.prog 9 #[v] w fun e w' => ∃ A n c, e = .returned (.tuple #[.slice A n c, .bool J]) ∧ Nq w' (.slice A n c) zs ∧ Ext w w' := by
  subst hZ hJ
  refine (i.CountGrades_law w v d h.rd h.ok).mono ?_
  rintro e w' ⟨v0, rfl, hf, hk, hx⟩
  obtain ⟨A, n, c, rfl, hn⟩ := nq_rd (kI.fr_rd hf) hk
  exact ⟨A, n, c, rfl, hn, hx⟩
theorem Mq.iAdd (h : Mq w v d) {v1 v2 : Value} (h1 : Nq w v1 gs) (h2 : Nq w v2 cs) (hD : (addJudgeF d gs cs).1 = D) (hJ : (addJudgeF d gs cs).2 = J) : Calls Tryz.prog 12 #[v, v1, v2] w fun e w' => ∃ A n c A' n' c', e = .returned (.tuple #[.agg #[.slice A n c, .slice A' n' c'], .bool J]) ∧ Mq w' (.agg #[.slice A n c, .slice A' n' c']) D ∧ Ext w w' := by
  subst hD hJ
  refine (i.AddJudge_law w v v1 v2 d gs cs h.rd h.ok h1.rd h1.ok h2.rd h2.ok).mono ?_
  rintro e w' ⟨v0, rfl, hf, hk, hx⟩
  obtain ⟨A, n, c, A', n', c', rfl, hm⟩ := mq_rd (kM.fr_rd hf) hk
  exact ⟨A, n, c, A', n', c', rfl, hm, hx⟩
theorem Mq.iAre (h : Mq w v d) (hz : InR z) (hJ : areMarksF d z = J) : Calls Tryz.prog 20 #[v, .int .i64 z] w fun e w' => e = .returned (.bool J) ∧ Ext w w' := by
  subst hJ
  exact i.AreMarks_law w v d z h.rd h.ok hz

theorem Mq.sJudges (h : Mq w v d) (hZ : (judgesOfF d).1 = Z) (hJ : (judgesOfF d).2 = J) : Calls Tryz.prog 8 #[v] w fun e w' => e = .returned (.tuple #[.int .i64 Z, .bool J]) ∧ Ext w w' := by
  subst hZ hJ
  exact s.JudgesOf_law w v d h.rd h.ok
theorem Mq.sCount (h : Mq w v d) (hZ : (countGradesF d).1 = zs) (hJ : (countGradesF d).2 = J) : Calls Tryz.prog 10 #[v] w fun e w' => ∃ A n c, e = .returned (.tuple #[.slice A n c, .bool J]) ∧ Nq w' (.slice A n c) zs ∧ Ext w w' := by
  subst hZ hJ
  refine (s.CountGrades_law w v d h.rd h.ok).mono ?_
  rintro e w' ⟨v0, rfl, hf, hk, hx⟩
  obtain ⟨A, n, c, rfl, hn⟩ := nq_rd (kI.fr_rd hf) hk
  exact ⟨A, n, c, rfl, hn, hx⟩
theorem Mq.sAdd (h : Mq w v d) {v1 v2 : Value} (h1 : Nq w v1 gs) (h2 : Nq w v2 cs) (hD : (addJudgeF d gs cs).1 = D) (hJ : (addJudgeF d gs cs).2 = J) : Calls Tryz.prog 13 #[v, v1, v2] w fun e w' => ∃ A n c A' n' c', e = .returned (.tuple #[.agg #[.slice A n c, .slice A' n' c'], .bool J]) ∧ Mq w' (.agg #[.slice A n c, .slice A' n' c']) D ∧ Ext w w' := by
  subst hD hJ
  refine (s.AddJudge_law w v v1 v2 d gs cs h.rd h.ok h1.rd h1.ok h2.rd h2.ok).mono ?_
  rintro e w' ⟨v0, rfl, hf, hk, hx⟩
  obtain ⟨A, n, c, A', n', c', rfl, hm⟩ := mq_rd (kM.fr_rd hf) hk
  exact ⟨A, n, c, A', n', c', rfl, hm, hx⟩
theorem Mq.sAre (h : Mq w v d) (hz : InR z) (hJ : areMarksF d z = J) : Calls Tryz.prog 21 #[v, .int .i64 z] w fun e w' => e = .returned (.bool J) ∧ Ext w w' := by
  subst hJ
  exact s.AreMarks_law w v d z h.rd h.ok hz
theorem parse_post {e : Ending} (h : ParsePost w S e w') (hD : (parseF S).1 = D) (hJ : (parseF S).2 = J) : ∃ A n c A' n' c', e = .returned (.tuple #[.agg #[.slice A n c, .slice A' n' c'], .bool J]) ∧ Mq w' (.agg #[.slice A n c, .slice A' n' c']) D ∧ Ext w w' := by
  subst hD hJ
  obtain ⟨v0, rfl, hf, hk, hx⟩ := h
  obtain ⟨A, n, c, A', n', c', rfl, hm⟩ := mq_rd (kM.fr_rd hf) hk
  exact ⟨A, n, c, A', n', c', rfl, hm, hx⟩
theorem iParse_q (hl : S.length ≤ 1048576) (hm : MaxLenIs w) (hD : (parseF S).1 = D) (hJ : (parseF S).2 = J) : Calls Tryz.prog 15 #[.string (bs S)] w fun e w' => ∃ A n c A' n' c', e = .returned (.tuple #[.agg #[.slice A n c, .slice A' n' c'], .bool J]) ∧ Mq w' (.agg #[.slice A n c, .slice A' n' c']) D ∧ Ext w w' :=
  (i.ParseMarks_m S w hl hm).mono fun _ _ h => parse_post h hD hJ
theorem sParse_q (hl : S.length ≤ 1048576) (hD : (parseF S).1 = D) (hJ : (parseF S).2 = J) : Calls Tryz.prog 16 #[.string (bs S)] w fun e w' => ∃ A n c A' n' c', e = .returned (.tuple #[.agg #[.slice A n c, .slice A' n' c'], .bool J]) ∧ Mq w' (.agg #[.slice A n c, .slice A' n' c']) D ∧ Ext w w' :=
  (s.ParseMarks_m S w hl).mono fun _ _ h => parse_post h hD hJ
theorem Mq.iOf (h : Mq w v d) (hz : InR z) (hD : judgeMarksF d z = (gs, cs, J)) : Calls Tryz.prog 22 #[v, .int .i64 z] w fun e w' => ∃ A n c A' n' c', e = .returned (.tuple #[.slice A n c, .slice A' n' c', .bool J]) ∧ Nq w' (.slice A n c) gs ∧ Nq w' (.slice A' n' c') cs ∧ Ext w w' := by
  refine (i.JudgeMarks_law w v d z h.rd h.ok hz).mono ?_
  rintro e w' ⟨v0, v1, l0, h0, l1, h1, rfl, f0, k0, f1, k1, -, hx⟩
  rw [hD] at f0 k0 f1 k1
  obtain ⟨A, n, c, rfl, hn⟩ := nq_rd (kI.fr_rd f0) k0
  obtain ⟨A', n', c', rfl, hn'⟩ := nq_rd (kI.fr_rd f1) k1
  exact ⟨A, n, c, A', n', c', by rw [hD], hn, hn', hx⟩
theorem Mq.iDrop (h : Mq w v d) (hz : InR z) (hD : dropJudgeF d z = (D, J)) : Calls Tryz.prog 23 #[v, .int .i64 z] w fun e w' => ∃ A n c A' n' c', e = .returned (.tuple #[.agg #[.slice A n c, .slice A' n' c'], .bool J]) ∧ Mq w' (.agg #[.slice A n c, .slice A' n' c']) D ∧ Ext w w' := by
  refine (i.DropJudge_law w v d z h.rd h.ok hz).mono ?_
  rintro e w' ⟨v0, rfl, hf, hk, hx⟩
  rw [hD] at hf hk
  obtain ⟨A, n, c, A', n', c', rfl, hm⟩ := mq_rd (kM.fr_rd hf) hk
  exact ⟨A, n, c, A', n', c', by rw [hD], hm, hx⟩
theorem Mq.same (h : Mq w v d) (h' : Mq w v' d) : Calls Tryz.prog 19 #[v, v'] w fun e w' => e = .returned (.bool true) ∧ Ext w w' := l.qMarks_same w v v' d h.rd h'.rd h.ok
theorem Nq.same (h : Nq w v zs) (h' : Nq w v' zs) : Calls Tryz.prog 18 #[v, v'] w fun e w' => e = .returned (.bool true) ∧ Ext w w' := by
  obtain ⟨A, c, rfl, h1, _⟩ := h.rd
  obtain ⟨A', c', rfl, h1', _⟩ := h'.rd
  exact l.qInts_same _ _ _ _ _ _ _ zs _ h1 h1' h.ok
theorem Nq.sum (h : Nq w v zs) (hs : Small zs) : Calls Tryz.prog 24 #[v] w fun e w' => e = .returned (.int .i64 zs.sum) ∧ Ext w w' := by
  obtain ⟨A, c, rfl, h1, _⟩ := h.rd
  refine (l.qSum_m A _ c _ zs w h1 h.ok hs).mono ?_
  rintro e w' ⟨rfl, rfl⟩
  exact ⟨rfl, Ext.refl _⟩
end
end Go.Proofs.YtnokilofcdbjhaaGreatDoor
