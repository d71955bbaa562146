import Derived.Test.YtijgndfhfggipaaGreatGA
namespace Go.Proofs.YtijgndfhfggipaaGreat
open Go.RowKit
set_option linter.unusedVariables false

theorem results_five {fn : Func} {t u v x y : Tmp} (h : fn.results = #[.tmp t, .tmp u, .tmp v, .tmp x, .tmp y]) (tmps : Array Value) (P : Program) (w : World) :
    (results fn tmps).run P w = .ok (.tuple #[tmps.getD t undef, tmps.getD u undef, tmps.getD v undef, tmps.getD x undef, tmps.getD y undef]) w := by simp [results, h]

theorem run_max_int4 {P : Program} {w : World} (ts : Array TypeId) (t : TypeId) (k k' k'' k''' : IntKind) (x y z u : Int) : (Builtin.max_ ts t #[.int k x, .int k' y, .int k'' z, .int k''' u]).run P w = .ok (.int k (max (max (max x y) z) u)) w := by
  have h : ∀ a b : Int, (if a < b then b else a) = max a b := fun a b => by split <;> omega
  simp [Builtin.max_, Builtin.max2, h]

def askedF (zs : List Int) (k lo hi : Int) : Bool := hasMark zs k && decide (-1000 ≤ lo) && decide (lo ≤ hi) && decide (hi ≤ 1000)
theorem askedF_ok {zs : List Int} {k lo hi : Int} (h : askedF zs k lo hi = true) : hasMark zs k = true ∧ -1000 ≤ lo ∧ lo ≤ hi ∧ hi ≤ 1000 := by
  simp only [askedF, Bool.and_eq_true, decide_eq_true_eq] at h
  exact ⟨h.1.1.1, h.1.1.2, h.1.2, h.2⟩
theorem good_set {zs : List Int} {k : Nat} {m : Int} (h : goodMarks zs = true) (h1 : -1000 ≤ m) (h2 : m ≤ 1000) : goodMarks (zs.set k m) = true := by
  simp only [goodMarks, inB, Bool.and_eq_true, decide_eq_true_eq, List.length_set, List.all_eq_true] at h ⊢
  refine ⟨h.1, fun z hz => ?_⟩
  rcases List.mem_or_eq_of_mem_set hz with hz | rfl
  · exact h.2 z hz
  · exact ⟨h1, h2⟩

theorem asked_eq (zs : List Int) (k lo hi : Int) : (hasMark zs k && inB (-1000) hi lo && inB lo 1000 hi) = askedF zs k lo hi := by
  unfold askedF inB
  cases hasMark zs k
  · rfl
  · by_cases h1 : -1000 ≤ lo <;> by_cases h2 : lo ≤ hi <;> by_cases h3 : hi ≤ 1000 <;> simp [h1, h2, h3]
def lowT (zs : List Int) : Int × Int := lowF (trimF zs).1 (trimF zs).2
def meanRangeF (zs : List Int) (k lo hi : Int) : Int × Int × Int × Int × Bool :=
  if askedF zs k lo hi then ((lowT (zs.set k.toNat lo)).1, (lowT (zs.set k.toNat lo)).2, (lowT (zs.set k.toNat hi)).1, (lowT (zs.set k.toNat hi)).2, true) else (0, 0, 0, 0, false)
def mostMovedF (zs : List Int) (k lo hi : Int) : Int × Int × Bool :=
  if askedF zs k lo hi then
    ((lowF (max (max ((trimF zs).1 - (trimF (zs.set k.toNat lo)).1) (-((trimF zs).1 - (trimF (zs.set k.toNat lo)).1))) (max ((trimF (zs.set k.toNat hi)).1 - (trimF zs).1) (-((trimF (zs.set k.toNat hi)).1 - (trimF zs).1)))) (trimF zs).2).1,
     (lowF (max (max ((trimF zs).1 - (trimF (zs.set k.toNat lo)).1) (-((trimF zs).1 - (trimF (zs.set k.toNat lo)).1))) (max ((trimF (zs.set k.toNat hi)).1 - (trimF zs).1) (-((trimF (zs.set k.toNat hi)).1 - (trimF zs).1)))) (trimF zs).2).2, true)
  else (0, 0, false)

/-- A mark set, trimmed: one call behind the other. -/
structure Moved (zs : List Int) (j : Nat) (m : Int) (T U : Int) : Prop where
  good : goodMarks (zs.set j m) = true
  eT : (trimF (zs.set j m)).1 = T
  eU : (trimF (zs.set j m)).2 = U
  b1 : -100000 ≤ T
  b2 : T ≤ 100000
  b3 : 1 ≤ U
  b4 : U ≤ 9
theorem moved (zs : List Int) (j : Nat) (m : Int) (h : goodMarks zs = true) (h1 : -1000 ≤ m) (h2 : m ≤ 1000) : ∃ T U, Moved zs j m T U := by
  have hg := good_set (k := j) h h1 h2
  obtain ⟨t1, t2, t3, t4⟩ := trim_bd hg
  exact ⟨_, _, hg, rfl, rfl, t1, t2, t3, t4⟩

end Go.Proofs.YtijgndfhfggipaaGreat
