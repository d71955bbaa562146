/- The library's insertion sort under a comparison of one's own, laid by the shelf at this seat; the stable sort. -/
import Derived.Test.YtcnpbaldnhfebaaSX
import Derived.Shelf.SlSortCmp.Insertion1
namespace Go.Proofs.Ytcnpbaldnhfebaa
open Go.RowKit Go.Sort Go.Shelf
set_option linter.unusedVariables false

def laysI_ren : Go.Shelf.Ren := ⟨fun | 20 => 75 | n => n, fun | 0 => 0 | 3 => 3 | 4 => 4 | 22 => 23 | 24 => 3 | 25 => 56 | n => n, fun n => n⟩
theorem laysI : Go.Proofs.SlLaysF.n20 Try.prog laysI_ren := {
  mixed := by kernel_rfl
  f20 := ⟨Try.f75.name, by kernel_rfl, Try.func75.trans (congrArg some (by kernel_rfl))⟩
  t0 := Try.underlying0
  a0 := Try.isAgg0
  z0 := Try.sizeOf0
  v0 := Try.zeroValue0
  t3 := Try.underlying3
  a3 := Try.isAgg3
  z3 := Try.sizeOf3
  v3 := Try.zeroValue3
  t4 := Try.underlying4
  a4 := Try.isAgg4
  z4 := Try.sizeOf4
  v4 := Try.zeroValue4
  t22 := Try.underlying23
  a22 := Try.isAgg23
  z22 := Try.sizeOf23
  v22 := Try.zeroValue23
  t25 := Try.underlying56
  a25 := Try.isAgg56
  z25 := Try.sizeOf56
  v25 := Try.zeroValue56
  a24 := Try.isAgg3
  z24 := Try.sizeOf3 }

theorem insI_m {α : Type} [Inhabited α] {T : α → α → Prop} (tr : ∀ x y z, T x y → T y z → T x z) (v : α → Int) (cf : α → α → Int) (g : Nat) (cb : Array Value) (blk off cap : Nat) (d0 : Array α) (w0 w : World) (R : Row1 (eI v) w0 blk off d0)
    (eg : ∀ args w, (callFunc g args).run Try.prog w = .ok (.enter g args) w) (hcmp : CmpLays1 Try.prog g cb (eI v) cf blk off d0.size w0) (hsz : d0.size < 4611686018427387904) (P X Z : List α) (a b : Nat) (ha : P.length = a) (hb : a + X.length = b) (hs : b + Z.length = d0.size)
    (hX : X.Pairwise (LtOf T (ltOf cf))) (S : SW (eI v) w0 blk off (P ++ (X ++ Z)).toArray w) :
    Calls Try.prog 75 #[.slice (some ⟨blk, off, none⟩) d0.size cap, .int .i64 a, .int .i64 b, .func (.func g) #[] cb] w fun e w' => e = .returned (.tuple #[]) ∧ ∃ M, M.Perm X ∧ M.Pairwise T ∧ SW (eI v) w0 blk off (P ++ (M ++ Z)).toArray w' := by
  have l : (P ++ (X ++ Z)).toArray.size = d0.size := by rw [List.size_toArray]; simp only [List.length_append]; omega
  have h := Any.insertionSortCmpFunc_s laysI (eI v) cf g cb blk off cap a b d0 (P ++ (X ++ Z)).toArray w0 w eg hcmp R l.symm S (by omega) (by rw [l]; omega) (by rw [l]; exact hsz)
  obtain ⟨M, e, s, p⟩ := sm_insertion (lt := ltOf cf) tr P X Z hX
  rw [ha, hb] at e
  rw [e, l] at h
  exact h.mono fun _ _ ⟨he, hw⟩ => ⟨he, M, p, s, hw⟩
end Go.Proofs.Ytcnpbaldnhfebaa
