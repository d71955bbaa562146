/- Draws of codes: strings drawn; a code under way. -/
import Derived.Test.YtofmfagdaiphaaaGD
import Derived.Test.YtofmfagdaiphaaaGR
import Derived.Test.YtofmfagdaiphaaaGO
import Derived.Test.YtofmfagdaiphaaaGQ
import Derived.Test.YtofmfagdaiphaaaGM
namespace Go.Proofs.Ytofmfagdaiphaaa
open Go.RowKit Go.Sort
set_option linter.unusedVariables false

/-- A short string. -/
def IsStr (v : Value) : Prop := ∃ y : List UInt8, v = .string (bs y) ∧ y.length ≤ 16
theorem isStr_of {y : List UInt8} (h : y.length ≤ 16) : IsStr (.string (bs y)) := ⟨y, rfl, h⟩

set_option maxRecDepth 100000 in
set_option maxHeartbeats 1000000 in
theorem cu.of_m (w : World) (g N : Nat) (A : Option Addr) (n c : Nat) (vs : List Value) (h : Cur w g N) (hN : N ≤ 4611686018427000000) (hs : Sl w w.heap.size A n vs) (hv : ∀ v ∈ vs, IsStr v) (hne : ∀ p, A = some p → p.block ≠ g) (hn : 1 ≤ n) (hn2 : n ≤ 1048576) :
    Calls Try.prog 90 #[.pointer (some ⟨g, 0, none⟩), .slice A n c] w fun e w' => ∃ y, e = .returned (.string (bs y)) ∧ y.length ≤ 16 ∧ Cur w' g (N + 2) ∧ TchF [g] w w' := by
  have P := hide (cu.pick_m w g N n h hN (by unfold InR; omega))
  have HV := hide hv
  have HL := hide hs.1
  obtain ⟨b, off, rfl, hb, hc⟩ := hs.2 (by omega)
  have HCL := hide hc
  have bg := hne _ rfl
  clear h hs hv hc hne
  go_enter Try.func90, Try.ntmps90
  go_wp2_with fail
  refine P.out.mono ?_
  rintro e w1 ⟨r, rfl, r0, r1, -, c1, k1⟩
  have C1 := hide c1; have K1 := hide k1
  obtain ⟨k, rfl⟩ : ∃ k : Nat, r = k := ⟨r.toNat, by omega⟩
  have hk : (k : Int) < n := r1 (by omega)
  have hk2 : k < vs.length := by have := HL.out; omega
  have cc : w1.cell? ⟨b, off + k, none⟩ = some vs[k] := (World.cell?_of_block (k1.block b hb (by simpa using bg))).trans (HCL.out k _ (List.getElem?_eq_getElem hk2))
  obtain ⟨y, hy, hy2⟩ := HV.out vs[k] (List.getElem_mem hk2)
  rw [hy] at cc
  have HY := hide hy2
  clear c1 k1 hy hy2 P
  go_wp2
  go_ret
  exact ⟨y, rfl, HY.out, C1.out, K1.out⟩

abbrev zC : Array Value := #[.slice none 0 0, .slice none 0 0, .int .i64 0, .int .i64 0, .int .i64 0, .int .i64 0]
section
variable {w wr w2 : World} {g b : Nat} {A1 : Option Addr} {n1 c1 : Nat} {xs : List ElD} {f1 : List Nat} {A2 : Option Addr} {n2 c2 : Nat} {zs : List Int} {f2 : List Nat} {r bo kp f : Int}
end
end Go.Proofs.Ytofmfagdaiphaaa
