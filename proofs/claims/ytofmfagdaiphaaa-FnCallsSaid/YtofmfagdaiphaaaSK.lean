/- The laws of VoteCall and AddReview. -/
import Derived.Test.YtofmfagdaiphaaaSJ
import Derived.Test.YtofmfagdaiphaaaCS
import Derived.Test.YtofmfagdaiphaaaSF
namespace Go.Proofs.Ytofmfagdaiphaaa
open Go.RowKit Go.Sort
set_option linter.unusedVariables false

theorem i.VoteCall_law (w : World) (v : Value) (d : ShD) (y1 y2 y3 y4 : Int) (h : kSm.rd w v d) (hok : kSm.ok d) (h1 : InR y1) (h2 : InR y2) (h3 : InR y3) (h4 : InR y4) :
    Calls Try.prog 13 #[v, .int .i64 y1, .int .i64 y2, .int .i64 y3, .int .i64 y4] w fun e w' => ∃ v0, e = .returned (.tuple #[v0, .bool (voteCF d y1 y2 y3 y4).2]) ∧ kSm.fr w' w.heap.size w'.heap.size v0 (voteCF d y1 y2 y3 y4).1 ∧ kSm.ok (voteCF d y1 y2 y3 y4).1 ∧ Ext w w' :=
  i.VoteCall_of i.copySheet_m w v d y1 y2 y3 y4 h hok h1 h2 h3 h4
theorem s.VoteCall_law (w : World) (v : Value) (d : ShD) (y1 y2 y3 y4 : Int) (h : kSm.rd w v d) (hok : kSm.ok d) (h1 : InR y1) (h2 : InR y2) (h3 : InR y3) (h4 : InR y4) :
    Calls Try.prog 14 #[v, .int .i64 y1, .int .i64 y2, .int .i64 y3, .int .i64 y4] w fun e w' => ∃ v0, e = .returned (.tuple #[v0, .bool (voteCF d y1 y2 y3 y4).2]) ∧ kSm.fr w' w.heap.size w'.heap.size v0 (voteCF d y1 y2 y3 y4).1 ∧ kSm.ok (voteCF d y1 y2 y3 y4).1 ∧ Ext w w' :=
  s.VoteCall_of s.caOwn_m w v d y1 y2 y3 y4 h hok h1 h2 h3 h4
theorem i.AddReview_law (w : World) (v : Value) (d : ShD) (r : RvD) (h : kSm.rd w v d) (hok : kSm.ok d) :
    Calls Try.prog 7 #[v, .agg #[.int .i64 r.1, .int .i64 r.2.1, .int .i64 r.2.2]] w fun e w' => ∃ v0, e = .returned (.tuple #[v0, .bool (addRF d r).2]) ∧ kSm.fr w' w.heap.size w'.heap.size v0 (addRF d r).1 ∧ kSm.ok (addRF d r).1 ∧ Ext w w' :=
  i.AddReview_of i.copySheet_m w v d r h hok
theorem s.AddReview_law (w : World) (v : Value) (d : ShD) (r : RvD) (h : kSm.rd w v d) (hok : kSm.ok d) :
    Calls Try.prog 8 #[v, .agg #[.int .i64 r.1, .int .i64 r.2.1, .int .i64 r.2.2]] w fun e w' => ∃ v0, e = .returned (.tuple #[v0, .bool (addRF d r).2]) ∧ kSm.fr w' w.heap.size w'.heap.size v0 (addRF d r).1 ∧ kSm.ok (addRF d r).1 ∧ Ext w w' :=
  s.AddReview_of s.caOwn_m w v d r h hok
end Go.Proofs.Ytofmfagdaiphaaa
