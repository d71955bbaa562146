/- The library's merges in place: the exchange of two ranges, the rotation. -/
import Derived.Test.YtcnpbaldnhfebaaSM
import Derived.Shelf.SlSortCmp.Kit1
import Derived.Sort.WalkB2
import Derived.Deep.LoopGhost
import Derived.Sort.WalkB12
import Derived.Test.YtcnpbaldnhfebaaRows
namespace Go.Proofs.Ytcnpbaldnhfebaa
open Go.RowKit Go.Sort
set_option linter.unusedVariables false

/-- Elements that are numbers. -/
abbrev eI {α : Type} (v : α → Int) : α → Value := fun x => .int .i64 (v x)
section
variable {α : Type} [Inhabited α] {v : α → Int} {w0 w : World} {blk off : Nat} {d0 d : Array α}
theorem sw_at1 (h : SW (eI v) w0 blk off d w) (R : Row1 (eI v) w0 blk off d0) (hs : d.size = d0.size) {i p : Nat} (hp : i = p) (hi : i < d.size) : w.cell? ⟨blk, off + p, none⟩ = some (.int .i64 (v d[i]!)) := by subst hp; exact h.c1 R hs i hi
theorem sw_atl (h : SW (eI v) w0 blk off d w) (R : Row1 (eI v) w0 blk off d0) (hs : d.size = d0.size) {i p : Nat} (hp : i = p) (hi : i < d.size) (n : Nat) (os : Array Obj) : (grow (w.drewN n) os).cell? ⟨blk, off + p, none⟩ = some (.int .i64 (v d[i]!)) := by subst hp; exact h.cl R hs i hi n os
theorem sw_fr1 (h : SW (eI v) w0 blk off d w) (R : Row1 (eI v) w0 blk off d0) (hs : d.size = d0.size) {i p : Nat} (hp : i = p) (hi : i < d.size) : w.frozen? ⟨blk, off + p, none⟩ = false := by subst hp; exact h.f1 R hs i hi
theorem sw_ex1 (h : SW (eI v) w0 blk off d w) (R : Row1 (eI v) w0 blk off d0) {d' : Array α} {i j p q : Nat} (hp : i = p) (hq : j = q) (hi : i < d.size) (hj : j < d.size) (he : swp d i j = d') :
    SW (eI v) w0 blk off d' ((w.setCell ⟨blk, off + p, none⟩ (.int .i64 (v d[j]!))).setCell ⟨blk, off + q, none⟩ (.int .i64 (v d[i]!))).drew := by subst hp; subst hq; subst he; exact h.swapped R i j hi hj
end

set_option maxHeartbeats 4000000 in
set_option maxRecDepth 1000000 in
theorem swapRange_m {α : Type} [Inhabited α] (v : α → Int) (fv : Value) (blk off cap : Nat) (d0 : Array α) (w0 w : World) (R : Row1 (eI v) w0 blk off d0) (P A Q B Z : List α) (n a b : Nat) (hA : A.length = n) (hB : B.length = n) (ha : P.length = a) (hb : P.length + n + Q.length = b) (hs : b + n + Z.length = d0.size)
    (S : SW (eI v) w0 blk off (P ++ (A ++ (Q ++ (B ++ Z)))).toArray w) (hsz : d0.size < 4611686018427387904) :
    Calls Try.prog 111 #[.slice (some ⟨blk, off, none⟩) d0.size cap, .int .i64 a, .int .i64 b, .int .i64 n, fv] w fun e w' => e = .returned (.tuple #[]) ∧ SW (eI v) w0 blk off (P ++ (B ++ (Q ++ (A ++ Z)))).toArray w' := by
  have LEN : Hid (∀ i, (swR P A Q B Z i).toArray.size = d0.size) := fun i => by rw [List.size_toArray, swR_len hA hB]; omega
  have STP : Hid (∀ i, i < n → swp (swR P A Q B Z i).toArray (a + i) (b + i) = (swR P A Q B Z (i + 1)).toArray) := fun i hi => by rw [← swR_step hA hB hi, ha, ← hb, ha]
  have hab : a + n ≤ b := by omega
  have S0 := hide S
  rw [← swR_zero] at S0
  rw [← swR_end hA hB]
  generalize swR P A Q B Z = f at *
  have RR := hide R
  clear S R ha hb hA hB
  have mixed : Try.prog.follows .mixedOrders = true := by kernel_rfl
  go_enter Try.func111, Try.ntmps111
  go_wp2
  go_loopw [10] (fun vi wr => ∃ i : Nat, vi = .int .i64 i ∧ i ≤ n ∧ Hid (SW (eI v) w0 blk off (f i).toArray wr)) (fun vi _ => n - (intOf vi).toNat)
  case atStart => exact ⟨0, by go_num, Nat.zero_le _, S0⟩
  case round =>
    obtain ⟨i, rfl, hi, S1⟩ := hrel
    by_cases hlt : i < n
    · have hltz : (i : Int) < (n : Int) := by omega
      obtain ⟨p, hp⟩ : ∃ p, Hid (a + i = p) := ⟨_, rfl⟩
      obtain ⟨q, hq⟩ : ∃ q, Hid (b + i = q) := ⟨_, rfl⟩
      have l1 := LEN.out i
      have pb : p < d0.size := by have := hp.out; omega
      have qb : q < d0.size := by have := hq.out; omega
      have wp : IntKind.i64.wrap ((a : Int) + (i : Int)) = (p : Int) := by rw [IntWalk.i64_in _ (by omega)]; have := hp.out; omega
      have wq : IntKind.i64.wrap ((b : Int) + (i : Int)) = (q : Int) := by rw [IntWalk.i64_in _ (by omega)]; have := hq.out; omega
      have i1 : (p : Int) < (d0.size : Int) := by omega
      have i2 : (q : Int) < (d0.size : Int) := by omega
      have c1 := sw_at1 S1.out RR.out l1 hp.out (by rw [l1, hp.out]; exact pb)
      have c2 := sw_at1 S1.out RR.out l1 hq.out (by rw [l1, hq.out]; exact qb)
      have f1 := sw_fr1 S1.out RR.out l1 hp.out (by rw [l1, hp.out]; exact pb)
      have f2 := sw_fr1 S1.out RR.out l1 hq.out (by rw [l1, hq.out]; exact qb)
      have S2 := hide (sw_ex1 S1.out RR.out hp.out hq.out (by rw [l1, hp.out]; exact pb) (by rw [l1, hq.out]; exact qb) (STP.out i hlt))
      obtain ⟨u, c3⟩ := S1.out.c2 RR.out l1 (a + i) (b + i) (by rw [l1, hp.out]; exact pb) (by rw [l1, hq.out]; exact qb) (.int .i64 (v (f i).toArray[b + i]!))
      rw [hp.out, hq.out] at c3
      rw [hp.out] at c1 S2
      rw [hq.out] at c2 S2
      clear S1 l1 hp hq pb qb
      generalize v (f i).toArray[p]! = x at *
      generalize v (f i).toArray[q]! = y at *
      go_wp2_with fail
      go_big_region_o
      clear c1 c2 c3 f1 f2
      generalize ((wr.setCell ⟨blk, off + p, none⟩ (.int .i64 y)).setCell ⟨blk, off + q, none⟩ (.int .i64 x)).drew = w3 at *
      go_wp2
      go_roundw
      case rel => exact ⟨i + 1, by go_num, by omega, S2⟩
      case measure => simp [intOf]; omega
    · have e : i = n := by omega
      subst e
      go_wp2
      go_end0
      exact ⟨rfl, S1.out⟩
end Go.Proofs.Ytcnpbaldnhfebaa
