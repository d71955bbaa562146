/- A sheet drawn, read; what the laws on reviews and calls call, over it. -/
import Derived.Test.YtofmfagdaiphaaaJE
import Derived.Test.YtofmfagdaiphaaaJH
import Derived.Test.YtofmfagdaiphaaaJI
import Derived.Test.YtofmfagdaiphaaaSK
namespace Go.Proofs.Ytofmfagdaiphaaa
open Go.RowKit Go.Sort
set_option linter.unusedVariables false

structure Dq (w : World) (v : Value) (d : ShD) : Prop where
  rd : kSm.rd w v d
  ok : kSm.ok d
theorem Dq.ext {w w' : World} {v : Value} {d : ShD} (h : Dq w v d) (x : Ext w w') : Dq w' v d := ⟨kSm.rd_ext h.rd x, h.ok⟩
theorem dq_of {lo : Nat} {w : World} {v : Value} (h : ShR lo w v) : ∃ d, Dq w v d := by
  obtain ⟨d, h1, h2⟩ := h
  exact ⟨d, h2 w (Since.refl _ _), h1⟩
theorem dq_fr {w : World} {lo hi : Nat} {v : Value} {d : ShD} (hf : kSm.fr w lo hi v d) (ok : kSm.ok d) : ∃ A n c A' n' c' D m e, v = .agg #[.slice A n c, .slice A' n' c', .slice D m e] ∧ Dq w (.agg #[.slice A n c, .slice A' n' c', .slice D m e]) d := by
  have h := kSm.fr_rd hf
  obtain ⟨A, n, c, A', n', c', D, m, e, rfl⟩ := kSm.shape h
  exact ⟨A, n, c, A', n', c', D, m, e, rfl, h, ok⟩
theorem l.big_m (A A' : Option Addr) (n c n' c' : Nat) (w : World) (h : n ≤ 9223372036854775807) (h' : n' ≤ 9223372036854775807) : Calls Try.prog 5 #[.slice A n c, .slice A' n' c'] w fun e w' => ∃ B, e = .returned (.bool B) ∧ w' = w := by
  have i1 : (n : Int) ≤ 9223372036854775807 := by omega
  have i2 : (n' : Int) ≤ 9223372036854775807 := by omega
  by_cases hb : (1048576 : Int) < n
  · go_enter Try.func5, Try.ntmps5
    go_wp2
    go_ret
    first | exact ⟨_, rfl, rfl⟩ | exact ⟨.inl rfl, rfl⟩ | exact ⟨.inr rfl, rfl⟩
  · by_cases hb2 : (1048576 : Int) - n < n'
    · go_enter Try.func5, Try.ntmps5
      go_wp2
      go_ret
      first | exact ⟨_, rfl, rfl⟩ | exact ⟨.inl rfl, rfl⟩ | exact ⟨.inr rfl, rfl⟩
    · go_enter Try.func5, Try.ntmps5
      go_wp2
      go_ret
      first | exact ⟨_, rfl, rfl⟩ | exact ⟨.inl rfl, rfl⟩ | exact ⟨.inr rfl, rfl⟩
section
variable {w : World} {v v' : Value} {d D : ShD} {J : Bool}
theorem Dq.iAdd (h : Dq w v d) {r1 r2 r3 : Int} (hD : (addRF d (r1, r2, r3)).1 = D) (hJ : (addRF d (r1, r2, r3)).2 = J) : Calls Try.prog 7 #[v, .agg #[.int .i64 r1, .int .i64 r2, .int .i64 r3]] w fun e w' => ∃ A n c A' n' c' B m q, e = .returned (.tuple #[.agg #[.slice A n c, .slice A' n' c', .slice B m q], .bool J]) ∧ Dq w' (.agg #[.slice A n c, .slice A' n' c', .slice B m q]) D ∧ Ext w w' := by
  subst hJ hD
  refine (i.AddReview_law w v d (r1, r2, r3) h.rd h.ok).mono ?_
  rintro e w' ⟨v0, rfl, hf, hok, hx⟩
  obtain ⟨A, n, c, A', n', c', B, m, q, rfl, hd⟩ := dq_fr hf hok
  exact ⟨A, n, c, A', n', c', B, m, q, rfl, hd, hx⟩
theorem Dq.iVote (h : Dq w v d) {y1 y2 y3 y4 : Int} (h1 : InR y1) (h2 : InR y2) (h3 : InR y3) (h4 : InR y4) (hD : (voteCF d y1 y2 y3 y4).1 = D) (hJ : (voteCF d y1 y2 y3 y4).2 = J) : Calls Try.prog 13 #[v, .int .i64 y1, .int .i64 y2, .int .i64 y3, .int .i64 y4] w fun e w' => ∃ A n c A' n' c' B m q, e = .returned (.tuple #[.agg #[.slice A n c, .slice A' n' c', .slice B m q], .bool J]) ∧ Dq w' (.agg #[.slice A n c, .slice A' n' c', .slice B m q]) D ∧ Ext w w' := by
  subst hJ hD
  refine (i.VoteCall_law w v d y1 y2 y3 y4 h.rd h.ok h1 h2 h3 h4).mono ?_
  rintro e w' ⟨v0, rfl, hf, hok, hx⟩
  obtain ⟨A, n, c, A', n', c', B, m, q, rfl, hd⟩ := dq_fr hf hok
  exact ⟨A, n, c, A', n', c', B, m, q, rfl, hd, hx⟩
theorem new_i {xs : List ItD} {A0 : Option Addr} {n0 c0 : Nat} (hl : LR kdItem w w.heap.size A0 c0 xs) (hw : wtL kdItem xs ≤ 1048576) (hn : xs.length = n0) (hD : (newF xs).1 = D) (hJ : (newF xs).2 = J) : Calls Try.prog 16 #[.slice A0 n0 c0] w fun e w' => ∃ A n c A' n' c' B m q, e = .returned (.tuple #[.agg #[.slice A n c, .slice A' n' c', .slice B m q], .bool J]) ∧ Dq w' (.agg #[.slice A n c, .slice A' n' c', .slice B m q]) D ∧ Ext w w' := by
  subst hJ hD hn
  refine (i.NewSheet_law w _ xs ⟨_, rfl, ⟨A0, c0, rfl, hl⟩⟩ hw).mono ?_
  rintro e w' ⟨v0, rfl, hf, hok, hx⟩
  obtain ⟨A, n, c, A', n', c', B, m, q, rfl, hd⟩ := dq_fr hf hok
  exact ⟨A, n, c, A', n', c', B, m, q, rfl, hd, hx⟩

theorem Dq.sAdd (h : Dq w v d) {r1 r2 r3 : Int} (hD : (addRF d (r1, r2, r3)).1 = D) (hJ : (addRF d (r1, r2, r3)).2 = J) : Calls Try.prog 8 #[v, .agg #[.int .i64 r1, .int .i64 r2, .int .i64 r3]] w fun e w' => ∃ A n c A' n' c' B m q, e = .returned (.tuple #[.agg #[.slice A n c, .slice A' n' c', .slice B m q], .bool J]) ∧ Dq w' (.agg #[.slice A n c, .slice A' n' c', .slice B m q]) D ∧ Ext w w' := by
  subst hJ hD
  refine (s.AddReview_law w v d (r1, r2, r3) h.rd h.ok).mono ?_
  rintro e w' ⟨v0, rfl, hf, hok, hx⟩
  obtain ⟨A, n, c, A', n', c', B, m, q, rfl, hd⟩ := dq_fr hf hok
  exact ⟨A, n, c, A', n', c', B, m, q, rfl, hd, hx⟩
theorem Dq.sVote (h : Dq w v d) {y1 y2 y3 y4 : Int} (h1 : InR y1) (h2 : InR y2) (h3 : InR y3) (h4 : InR y4) (hD : (voteCF d y1 y2 y3 y4).1 = D) (hJ : (voteCF d y1 y2 y3 y4).2 = J) : Calls Try.prog 14 #[v, .int .i64 y1, .int .i64 y2, .int .i64 y3, .int .i64 y4] w fun e w' => ∃ A n c A' n' c' B m q, e = .returned (.tuple #[.agg #[.slice A n c, .slice A' n' c', .slice B m q], .bool J]) ∧ Dq w' (.agg #[.slice A n c, .slice A' n' c', .slice B m q]) D ∧ Ext w w' := by
  subst hJ hD
  refine (s.VoteCall_law w v d y1 y2 y3 y4 h.rd h.ok h1 h2 h3 h4).mono ?_
  rintro e w' ⟨v0, rfl, hf, hok, hx⟩
  obtain ⟨A, n, c, A', n', c', B, m, q, rfl, hd⟩ := dq_fr hf hok
  exact ⟨A, n, c, A', n', c', B, m, q, rfl, hd, hx⟩
theorem new_s {xs : List ItD} {A0 : Option Addr} {n0 c0 : Nat} (hl : LR kdItem w w.heap.size A0 c0 xs) (hw : wtL kdItem xs ≤ 1048576) (hn : xs.length = n0) (hD : (newF xs).1 = D) (hJ : (newF xs).2 = J) : Calls Try.prog 17 #[.slice A0 n0 c0] w fun e w' => ∃ A n c A' n' c' B m q, e = .returned (.tuple #[.agg #[.slice A n c, .slice A' n' c', .slice B m q], .bool J]) ∧ Dq w' (.agg #[.slice A n c, .slice A' n' c', .slice B m q]) D ∧ Ext w w' := by
  subst hJ hD hn
  refine (s.NewSheet_law w _ xs ⟨_, rfl, ⟨A0, c0, rfl, hl⟩⟩ hw).mono ?_
  rintro e w' ⟨v0, rfl, hf, hok, hx⟩
  obtain ⟨A, n, c, A', n', c', B, m, q, rfl, hd⟩ := dq_fr hf hok
  exact ⟨A, n, c, A', n', c', B, m, q, rfl, hd, hx⟩
theorem Dq.iVoteS (h : Dq w v d) {y1 y2 y3 y4 : Int} (h1 : InR y1) (h2 : InR y2) (h3 : InR y3) (h4 : InR y4) (hD : (voteCF d y1 y2 y3 y4).1 = D) (hJ : (voteCF d y1 y2 y3 y4).2 = J) : Calls Try.prog 13 #[v, .int .i64 y1, .int .i64 y2, .int .i64 y3, .int .i64 y4] w fun e w' => ∃ A n c A' n' c' B m q, e = .returned (.tuple #[.agg #[.slice A n c, .slice A' n' c', .slice B m q], .bool J]) ∧ (∀ w2, Since w.heap.size w' w2 → Dq w2 (.agg #[.slice A n c, .slice A' n' c', .slice B m q]) D) ∧ Ext w w' := by
  subst hJ hD
  refine (i.VoteCall_law w v d y1 y2 y3 y4 h.rd h.ok h1 h2 h3 h4).mono ?_
  rintro e w' ⟨v0, rfl, hf, hok, hx⟩
  obtain ⟨A, n, c, A', n', c', B, m, q, rfl, hd⟩ := dq_fr hf hok
  refine ⟨A, n, c, A', n', c', B, m, q, rfl, fun w2 k => ⟨?_, hok⟩, hx⟩
  obtain ⟨vs, fp, hv, ho, hfp⟩ := hf
  exact ⟨vs, hv, kdSh.own_rd (kdSh.own_keep ho fun i hi => k.2 i (hfp i hi).1 (kdSh.own_lt ho i hi))⟩
theorem Dq.iCall (h : Dq w v d) {y1 y2 : Int} (h1 : InR y1) (h2 : InR y2) : Calls Try.prog 10 #[v, .int .i64 y1, .int .i64 y2] w fun e w' => e = .returned (.tuple #[.int .i64 (callOfF d y1 y2).1, .bool (callOfF d y1 y2).2]) ∧ Ext w w' :=
  i.CallOf_law w v d y1 y2 h.rd h.ok h1 h2
theorem Dq.iIs (h : Dq w v d) : Calls Try.prog 11 #[v] w fun e w' => e = .returned (.bool (sheetB d)) ∧ Ext w w' := i.IsSheet_law w v d h.rd h.ok
theorem Dq.iOpen (h : Dq w v d) : Calls Try.prog 18 #[v] w fun e w' => ∃ A n c, e = .returned (.tuple #[.slice A n c, .bool (openCallsF d).2]) ∧ n = (openCallsF d).1.length ∧ Ext w w' := by
  refine (i.OpenCalls_law w v d h.rd h.ok).mono ?_
  rintro e w' ⟨v0, rfl, hf, hok, hx⟩
  obtain ⟨vs, fp, rfl, ⟨A, c, rfl, _⟩, _⟩ := hf
  exact ⟨A, _, c, rfl, rfl, hx⟩
theorem Dq.same (h : Dq w v d) (h' : Dq w v' d) : Calls Try.prog 9 #[v, v'] w fun e w' => e = .returned (.bool true) ∧ Ext w w' :=
  l.pSameSheet_sm w v v' d h.rd h'.rd h.ok
end
end Go.Proofs.Ytofmfagdaiphaaa
