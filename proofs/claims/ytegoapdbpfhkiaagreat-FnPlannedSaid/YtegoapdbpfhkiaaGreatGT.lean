/- GT: TJ, ShSort, TK in one text. -/
import Derived.Test.YtegoapdbpfhkiaaGreatGA
import Derived.Shelf.Sort.Plain
import Derived.Test.YtegoapdbpfhkiaaGreatProg
namespace Go.Proofs.YtegoapdbpfhkiaaGreat
open Go.RowKit
set_option linter.unusedVariables false

theorem results_five {fn : Func} {t u v x y : Tmp} (h : fn.results = #[.tmp t, .tmp u, .tmp v, .tmp x, .tmp y]) (tmps : Array Value) (P : Program) (w : World) :
    (results fn tmps).run P w = .ok (.tuple #[tmps.getD t undef, tmps.getD u undef, tmps.getD v undef, tmps.getD x undef, tmps.getD y undef]) w := by simp [results, h]

theorem run_max_int4 {P : Program} {w : World} (ts : Array TypeId) (t : TypeId) (k k' k'' k''' : IntKind) (x y z u : Int) : (Builtin.max_ ts t #[.int k x, .int k' y, .int k'' z, .int k''' u]).run P w = .ok (.int k (max (max (max x y) z) u)) w := by
  have h : ∀ a b : Int, (if a < b then b else a) = max a b := fun a b => by split <;> omega
  simp [Builtin.max_, Builtin.max2, h]

def askedF (zs : List Int) (k lo hi : Int) : Bool := hasMark zs k && decide (-1000 ≤ lo) && decide (lo ≤ hi) && decide (hi ≤ 1000)
theorem askedF_ok {zs : List Int} {k lo hi : Int} (h : askedF zs k lo hi = true) : hasMark zs k = true ∧ -1000 ≤ lo ∧ lo ≤ hi ∧ hi ≤ 1000 := by
  simp only [askedF, Bool.and_eq_true, decide_eq_true_eq] at h
  exact ⟨h.1.1.1, h.1.1.2, h.1.2, h.2⟩
theorem good_set {zs : List Int} {k : Nat} {m : Int} (h : goodMarks zs = true) (h1 : -1000 ≤ m) (h2 : m ≤ 1000) : goodMarks (zs.set k m) = true := by
  simp only [goodMarks, inB, Bool.and_eq_true, decide_eq_true_eq, List.length_set, List.all_eq_true] at h ⊢
  refine ⟨h.1, fun z hz => ?_⟩
  rcases List.mem_or_eq_of_mem_set hz with hz | rfl
  · exact h.2 z hz
  · exact ⟨h1, h2⟩

theorem asked_eq (zs : List Int) (k lo hi : Int) : (hasMark zs k && inB (-1000) hi lo && inB lo 1000 hi) = askedF zs k lo hi := by
  unfold askedF inB
  cases hasMark zs k
  · rfl
  · by_cases h1 : -1000 ≤ lo <;> by_cases h2 : lo ≤ hi <;> by_cases h3 : hi ≤ 1000 <;> simp [h1, h2, h3]
def lowT (zs : List Int) : Int × Int := lowF (trimF zs).1 (trimF zs).2
def meanRangeF (zs : List Int) (k lo hi : Int) : Int × Int × Int × Int × Bool :=
  if askedF zs k lo hi then ((lowT (zs.set k.toNat lo)).1, (lowT (zs.set k.toNat lo)).2, (lowT (zs.set k.toNat hi)).1, (lowT (zs.set k.toNat hi)).2, true) else (0, 0, 0, 0, false)
def mostMovedF (zs : List Int) (k lo hi : Int) : Int × Int × Bool :=
  if askedF zs k lo hi then
    ((lowF (max (max ((trimF zs).1 - (trimF (zs.set k.toNat lo)).1) (-((trimF zs).1 - (trimF (zs.set k.toNat lo)).1))) (max ((trimF (zs.set k.toNat hi)).1 - (trimF zs).1) (-((trimF (zs.set k.toNat hi)).1 - (trimF zs).1)))) (trimF zs).2).1,
     (lowF (max (max ((trimF zs).1 - (trimF (zs.set k.toNat lo)).1) (-((trimF zs).1 - (trimF (zs.set k.toNat lo)).1))) (max ((trimF (zs.set k.toNat hi)).1 - (trimF zs).1) (-((trimF (zs.set k.toNat hi)).1 - (trimF zs).1)))) (trimF zs).2).2, true)
  else (0, 0, false)

/-- A mark set, trimmed: one call behind the other. -/
structure Moved (zs : List Int) (j : Nat) (m : Int) (T U : Int) : Prop where
  good : goodMarks (zs.set j m) = true
  eT : (trimF (zs.set j m)).1 = T
  eU : (trimF (zs.set j m)).2 = U
  b1 : -100000 ≤ T
  b2 : T ≤ 100000
  b3 : 1 ≤ U
  b4 : U ≤ 9
theorem moved (zs : List Int) (j : Nat) (m : Int) (h : goodMarks zs = true) (h1 : -1000 ≤ m) (h2 : m ≤ 1000) : ∃ T U, Moved zs j m T U := by
  have hg := good_set (k := j) h h1 h2
  obtain ⟨t1, t2, t3, t4⟩ := trim_bd hg
  exact ⟨_, _, hg, rfl, rfl, t1, t2, t3, t4⟩

end Go.Proofs.YtegoapdbpfhkiaaGreat

/- Contracts of the library, laid by the shelf at this seat, in plain words. -/
namespace Go.Proofs.YtegoapdbpfhkiaaGreat
open Go.Proofs
open Go.Shelf
def lays189_ren : Go.Shelf.Ren := ⟨fun | 189 => 40 | 125 => 73 | 257 => 72 | 128 => 105 | 129 => 106 | 294 => 96 | 295 => 97 | 296 => 98 | 297 => 99 | 298 => 100 | 299 => 101 | 216 => 102 | 300 => 103 | 301 => 104 | 328 => 121 | 329 => 122 | 330 => 123 | 331 => 124 | 332 => 125 | 215 => 126 | 343 => 140 | n => n, fun | 28 => 24 | 3 => 3 | 46 => 88 | 0 => 0 | 51 => 109 | 53 => 65 | 4 => 4 | 183 => 104 | 182 => 103 | 131 => 34 | 5 => 5 | 9 => 9 | 218 => 116 | 222 => 120 | 228 => 126 | 229 => 127 | n => n, fun | n => n⟩
theorem lays189 : Go.Proofs.Lays.n189 Tryz.prog lays189_ren := {
  mixed := by kernel_rfl
  f125 := Tryz.func73.trans (congrArg some (by kernel_rfl))
  f128 := Tryz.func105.trans (congrArg some (by kernel_rfl))
  f129 := Tryz.func106.trans (congrArg some (by kernel_rfl))
  f189 := Tryz.func40.trans (congrArg some (by kernel_rfl))
  f215 := Tryz.func126.trans (congrArg some (by kernel_rfl))
  f216 := Tryz.func102.trans (congrArg some (by kernel_rfl))
  f257 := Tryz.func72.trans (congrArg some (by kernel_rfl))
  f294 := Tryz.func96.trans (congrArg some (by kernel_rfl))
  f295 := Tryz.func97.trans (congrArg some (by kernel_rfl))
  f296 := Tryz.func98.trans (congrArg some (by kernel_rfl))
  f297 := Tryz.func99.trans (congrArg some (by kernel_rfl))
  f298 := Tryz.func100.trans (congrArg some (by kernel_rfl))
  f299 := Tryz.func101.trans (congrArg some (by kernel_rfl))
  f300 := Tryz.func103.trans (congrArg some (by kernel_rfl))
  f301 := Tryz.func104.trans (congrArg some (by kernel_rfl))
  f328 := Tryz.func121.trans (congrArg some (by kernel_rfl))
  f329 := Tryz.func122.trans (congrArg some (by kernel_rfl))
  f330 := Tryz.func123.trans (congrArg some (by kernel_rfl))
  f331 := Tryz.func124.trans (congrArg some (by kernel_rfl))
  f332 := Tryz.func125.trans (congrArg some (by kernel_rfl))
  f343 := Tryz.func140.trans (congrArg some (by kernel_rfl))
  t0 := Tryz.underlying0
  a0 := Tryz.isAgg0
  z0 := Tryz.sizeOf0
  v0 := Tryz.zeroValue0
  t3 := Tryz.underlying3
  a3 := Tryz.isAgg3
  z3 := Tryz.sizeOf3
  v3 := Tryz.zeroValue3
  t4 := Tryz.underlying4
  a4 := Tryz.isAgg4
  z4 := Tryz.sizeOf4
  v4 := Tryz.zeroValue4
  t5 := Tryz.underlying5
  a5 := Tryz.isAgg5
  z5 := Tryz.sizeOf5
  v5 := Tryz.zeroValue5
  t9 := Tryz.underlying9
  a9 := Tryz.isAgg9
  z9 := Tryz.sizeOf9
  v9 := Tryz.zeroValue9
  t28 := Tryz.underlying24
  a28 := Tryz.isAgg24
  z28 := Tryz.sizeOf24
  v28 := Tryz.zeroValue24
  t46 := Tryz.underlying88
  a46 := Tryz.isAgg88
  z46 := Tryz.sizeOf88
  v46 := Tryz.zeroValue88
  t51 := Tryz.underlying109
  a51 := Tryz.isAgg109
  z51 := Tryz.sizeOf109
  v51 := Tryz.zeroValue109
  t53 := Tryz.underlying65
  a53 := Tryz.isAgg65
  z53 := Tryz.sizeOf65
  v53 := Tryz.zeroValue65
  t131 := Tryz.underlying34
  a131 := Tryz.isAgg34
  z131 := Tryz.sizeOf34
  v131 := Tryz.zeroValue34
  t182 := Tryz.underlying103
  a182 := Tryz.isAgg103
  z182 := Tryz.sizeOf103
  v182 := Tryz.zeroValue103
  t183 := Tryz.underlying104
  a183 := Tryz.isAgg104
  z183 := Tryz.sizeOf104
  v183 := Tryz.zeroValue104
  t218 := Tryz.underlying116
  a218 := Tryz.isAgg116
  z218 := Tryz.sizeOf116
  v218 := Tryz.zeroValue116
  t222 := Tryz.underlying120
  a222 := Tryz.isAgg120
  z222 := Tryz.sizeOf120
  v222 := Tryz.zeroValue120
  t228 := Tryz.underlying126
  a228 := Tryz.isAgg126
  z228 := Tryz.sizeOf126
  v228 := Tryz.zeroValue126
  t229 := Tryz.underlying127
  a229 := Tryz.isAgg127
  z229 := Tryz.sizeOf127
  v229 := Tryz.zeroValue127 }
open Go.Sort Go.RowKit in
theorem slices_Sort_int (blk off cap : Nat) (zs : List Int) (w : World) (hH : Holds (Value.int .i64) w blk off zs.toArray) (hblk : blk < w.heap.size) (hsz : zs.length < 4611686018427387904) :
    Calls Tryz.prog 40 #[.slice (some ⟨blk, off, none⟩) zs.length cap] w fun e w' =>
      e = .returned (.tuple #[]) ∧ ∃ n os, w' = grow (putRow (Value.int .i64) (Sort.ahead w n) blk off (zs.mergeSort fun x y => decide (x ≤ y)).toArray) os := Any.slices_Sort_int lays189 blk off cap zs w hH hblk hsz
end Go.Proofs.YtegoapdbpfhkiaaGreat

namespace Go.Proofs.YtegoapdbpfhkiaaGreat
open Go.RowKit Go.Sort
set_option linter.unusedVariables false

def sortA (zs : List Int) : List Int := zs.mergeSort fun x y => decide (x ≤ y)
theorem sortA_eq (zs : List Int) : sortA zs = (sortD zs).reverse := by
  have h1 : (sortA zs).Pairwise (fun x y => x ≤ y) := by
    have := List.pairwise_mergeSort (le := fun x y : Int => decide (x ≤ y)) (fun a b c h1 h2 => by simp at h1 h2 ⊢; omega) (fun a b => by simp; omega) zs
    exact this.imp (by simp)
  have h2 : (sortD zs).reverse.Pairwise (fun x y => x ≤ y) := by
    rw [List.pairwise_reverse]
    exact (sortD_sorted zs).imp (by simp)
  have h3 : (sortA zs).Perm (sortD zs).reverse := (List.mergeSort_perm zs _).trans ((sortD_perm zs).symm.trans (List.reverse_perm _).symm)
  exact h3.eq_of_pairwise (fun a b _ _ h1 h2 => by omega) h1 h2

theorem Own.holds {e : TypeId} {w : World} {lo n c g : Nat} {zs : List Int} (h : OwnI e w lo (some ⟨g, 0, none⟩) n c zs) : Holds (Value.int .i64) w g 0 zs.toArray := by
  intro j hj
  have hl := h.len
  have hj' : j < n := by simpa [hl] using hj
  refine ⟨?_, by rw [Nat.zero_add]; exact h.free j⟩
  rw [Nat.zero_add, h.cell j hj']
  have : j < zs.length := by omega
  simp [this]

theorem quiet_of_d {P : Program} {f : FuncId} {args : Array Value} {w : World} {n : Nat} {v : Value}
    (h : Calls P f args (w.drewN n) fun e w' => e = .returned v ∧ ∃ m, w' = (w.drewN n).drewN m) : Calls P f args (w.drewN n) fun e w'' => e = .returned v ∧ ∃ m, w'' = w.drewN m :=
  h.mono fun _ _ ⟨he, m, hm⟩ => ⟨he, n + m, by rw [hm, World.drewN_drewN]⟩

def orderOfF (zs : List Int) (k : Int) : Int × Bool := if hasMark zs k then ((sortD zs).reverse.getD k.toNat 0, true) else (0, false)
def midD (zs : List Int) : Int := (sortD zs).reverse.getD ((zs.length - 1) / 2) 0 + (sortD zs).reverse.getD (zs.length / 2) 0
def middleOfF (zs : List Int) : Int × Int × Bool := if goodMarks zs then ((lowF (midD zs) 2).1, (lowF (midD zs) 2).2, true) else (0, 0, false)

theorem sort_mem_bd {zs : List Int} (h : goodMarks zs = true) (k : Nat) : -1000 ≤ (sortD zs).reverse.getD k 0 ∧ (sortD zs).reverse.getD k 0 ≤ 1000 := by
  by_cases hk : k < (sortD zs).reverse.length
  · have hm : (sortD zs).reverse[k] ∈ zs := (sortD_perm zs).mem_iff.1 (List.mem_reverse.1 (List.getElem_mem hk))
    have := (good_ok h).2.2.1 _ hm
    simpa [List.getElem?_eq_getElem hk] using this
  · rw [List.getD_eq_getElem?_getD, List.getElem?_eq_none (by omega)]
    simp

end Go.Proofs.YtegoapdbpfhkiaaGreat
