/- What was drawn, read; what the law on plans calls, over it. -/
import Derived.Test.YtegoapdbpfhkiaaGreatGX
import Derived.Test.YtegoapdbpfhkiaaGreatJB
import Derived.Test.YtegoapdbpfhkiaaGreatFP
import Derived.Test.YtegoapdbpfhkiaaGreatGP
namespace Go.Proofs.YtegoapdbpfhkiaaGreat
open Go.RowKit Go.Sort
set_option linter.unusedVariables false

/-- A code, read in every later world. -/
structure Dc (w1 : World) (v : Value) (d : CoD) : Prop where
  rd : kC.rd w1 v d
  ok : kC.ok d
theorem Dc.ext {w1 w2 : World} {v : Value} {d : CoD} (h : Dc w1 v d) (k : Ext w1 w2) : Dc w2 v d := ⟨kC.rd_ext h.rd k, h.ok⟩
theorem dc_of {lo : Nat} {w : World} {v : Value} (hc : CoR lo w v) : ∃ d, Dc w v d := by
  obtain ⟨d, h1, h2⟩ := hc
  exact ⟨d, ⟨h2 w (Since.refl _ _), h1⟩⟩
/-- A list of numbers in memory, its length known. -/
structure NumP (w : World) (A : Option Addr) (n c : Nat) (zs : List Int) : Prop where
  sl : SlI w w.heap.size A n zs
  cap : n ≤ c
  capm : c ≤ 9223372036854775807
theorem NumP.ext {w w' : World} {A : Option Addr} {n c : Nat} {zs : List Int} (h : NumP w A n c zs) (k : Ext w w') : NumP w' A n c zs := ⟨(SlI.ext h.sl k (Nat.le_refl _)).more k.size, h.cap, h.capm⟩
theorem NumP.same {w : World} {A A' : Option Addr} {n c c' : Nat} {zs : List Int} (h : NumP w A n c zs) (h' : NumP w A' n c' zs) (hn : n ≤ 1048576) : Calls Tryz.prog 19 #[.slice A n c, .slice A' n c'] w fun e w' => e = .returned (.bool true) ∧ Ext w w' :=
  l.qInts_same A A' n c c' _ _ zs w h.sl h'.sl hn
def namS (d : CoD) (n : Int) : List Int := (bestF d n).1
def sngS (d : CoD) (n : Int) : List ItD := (sngF d n).1
theorem namS_len (d : CoD) (n : Int) : (namS d n).length ≤ 1048576 := bestF_len d n
section
variable {w : World} {v : Value} {d : CoD} {n : Int} {G : Bool}
theorem Dc.iSng (h : Dc w v d) (hn : InR n) (hG : (bestF d n).2 = G) : Calls Tryz.prog 5 #[v, .int .i64 n] w fun e w' => ∃ A' n' c', e = .returned (.tuple #[.slice A' n' c', .bool G]) ∧ (sngS d n).length = n' ∧ Dw w' v A' c' d (sngS d n) ∧ Ext w w' := by
  subst hG
  refine (i.BestSingles_law w v d n h.rd h.ok hn).mono ?_
  rintro e w' ⟨v0, rfl, hf, hok, hx⟩
  rw [sng_best]
  obtain ⟨A', c', rfl, hl⟩ := kIt.lr (kIt.fr_rd hf)
  exact ⟨A', _, c', rfl, rfl, ⟨kC.rd_ext h.rd hx, h.ok, hl, hok⟩, hx⟩
theorem Dc.iNam (h : Dc w v d) (hn : InR n) (hG : (bestF d n).2 = G) : Calls Tryz.prog 7 #[v, .int .i64 n] w fun e w' => ∃ A' n' c', e = .returned (.tuple #[.slice A' n' c', .bool G]) ∧ (namS d n).length = n' ∧ NumP w' A' n' c' (namS d n) ∧ Ext w w' := by
  subst hG
  refine (i.BestNames_law w v d n h.rd h.ok hn).mono ?_
  rintro e w' ⟨v0, rfl, hf, hok, hx⟩
  obtain ⟨A', c', rfl, h1, h2, h3⟩ := kI.fr_rd hf
  exact ⟨A', _, c', rfl, rfl, ⟨h1, h2, h3⟩, hx⟩
theorem Dc.iSB (h : Dc w v d) (hn : InR n) (hG : (bestF d n).2 = G) : Calls Tryz.prog 9 #[v, .int .i64 n] w fun e w' => e = .returned (.tuple #[.int .i64 (sbF d n).1, .bool G]) ∧ Ext w w' := by
  subst hG
  rw [← sb_best]
  exact i.SinglesBase_law w v d n h.rd h.ok hn
theorem Dc.iCnt (h : Dc w v d) (hn : InR n) : Calls Tryz.prog 11 #[v, .int .i64 n] w fun e w' => e = .returned (.tuple #[.int .i64 (countF d n).1, .bool (countF d n).2]) ∧ Ext w w' :=
  i.CountSingles_law w v d n h.rd h.ok hn
theorem Dc.iPlan (h : Dc w v d) (hn : InR n) : Calls Tryz.prog 13 #[v, .int .i64 n] w fun e w' => e = .returned (.tuple #[.int .i64 (planF d n).1, .bool (planF d n).2]) ∧ Ext w w' :=
  i.PlanBound_law w v d n h.rd h.ok hn
theorem Dc.iMost (h : Dc w v d) : Calls Tryz.prog 16 #[v] w fun e w' => e = .returned (.tuple #[.int .i64 (singF d).1, .bool (singF d).2]) ∧ Ext w w' :=
  i.MostSingles_law w v d h.rd h.ok

theorem Dc.sSng (h : Dc w v d) (hn : InR n) (hG : (bestF d n).2 = G) : Calls Tryz.prog 6 #[v, .int .i64 n] w fun e w' => ∃ A' n' c', e = .returned (.tuple #[.slice A' n' c', .bool G]) ∧ (sngS d n).length = n' ∧ Dw w' v A' c' d (sngS d n) ∧ Ext w w' := by
  subst hG
  refine (s.BestSingles_law w v d n h.rd h.ok hn).mono ?_
  rintro e w' ⟨v0, rfl, hf, hok, hx⟩
  rw [sng_best]
  obtain ⟨A', c', rfl, hl⟩ := kIt.lr (kIt.fr_rd hf)
  exact ⟨A', _, c', rfl, rfl, ⟨kC.rd_ext h.rd hx, h.ok, hl, hok⟩, hx⟩
theorem Dc.sNam (h : Dc w v d) (hn : InR n) (hG : (bestF d n).2 = G) : Calls Tryz.prog 8 #[v, .int .i64 n] w fun e w' => ∃ A' n' c', e = .returned (.tuple #[.slice A' n' c', .bool G]) ∧ (namS d n).length = n' ∧ NumP w' A' n' c' (namS d n) ∧ Ext w w' := by
  subst hG
  refine (s.BestNames_law w v d n h.rd h.ok hn).mono ?_
  rintro e w' ⟨v0, rfl, hf, hok, hx⟩
  obtain ⟨A', c', rfl, h1, h2, h3⟩ := kI.fr_rd hf
  exact ⟨A', _, c', rfl, rfl, ⟨h1, h2, h3⟩, hx⟩
theorem Dc.sSB (h : Dc w v d) (hn : InR n) (hG : (bestF d n).2 = G) : Calls Tryz.prog 10 #[v, .int .i64 n] w fun e w' => e = .returned (.tuple #[.int .i64 (sbF d n).1, .bool G]) ∧ Ext w w' := by
  subst hG
  rw [← sb_best]
  exact s.SinglesBase_law w v d n h.rd h.ok hn
theorem Dc.sCnt (h : Dc w v d) (hn : InR n) : Calls Tryz.prog 12 #[v, .int .i64 n] w fun e w' => e = .returned (.tuple #[.int .i64 (countF d n).1, .bool (countF d n).2]) ∧ Ext w w' :=
  s.CountSingles_law w v d n h.rd h.ok hn
theorem Dc.sPlan (h : Dc w v d) (hn : InR n) : Calls Tryz.prog 14 #[v, .int .i64 n] w fun e w' => e = .returned (.tuple #[.int .i64 (planF d n).1, .bool (planF d n).2]) ∧ Ext w w' :=
  s.PlanBound_law w v d n h.rd h.ok hn
theorem Dc.sMost (h : Dc w v d) : Calls Tryz.prog 17 #[v] w fun e w' => e = .returned (.tuple #[.int .i64 (singF d).1, .bool (singF d).2]) ∧ Ext w w' :=
  s.MostSingles_law w v d h.rd h.ok
end
/-- Where there is a best choice: all that the law asks. -/
theorem plan_yes {d : CoD} {n : Int} (h : (bestF d n).2 = true) : progB d (sngS d n) = true ∧ ((sngS d n).length : Int) = n ∧ orderF d (sngS d n) = (sngS d n, true) ∧ (sbF d n).1 = (basesF d (sngS d n)).sum ∧ ((namS d n).length : Int) = n ∧ (planF d n).2 = true ∧ (sbF d n).1 ≤ (planF d n).1 := by
  have hs : (sngF d n).2 = true := by rw [sng_best]; exact h
  obtain ⟨h1, h2, h3, h4⟩ := sng_prog hs
  obtain ⟨c1, c2, c3, c4, c5⟩ := bestF_yes h
  have hb := prog_bound h1
  rw [h2] at hb
  refine ⟨h1, h2, h3, by rw [h4]; rfl, ?_, congrArg Prod.snd hb.1, ?_⟩
  · unfold namS; rw [c4]; exact c5
  · rw [h4]; exact hb.2
end Go.Proofs.YtegoapdbpfhkiaaGreat
