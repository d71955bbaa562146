/- The draws of the laws over marks. -/
import Derived.Test.YtijgndfhfggipaaDF
namespace Go.Proofs.Ytijgndfhfggipaa
open Go.RowKit Go.Sort
set_option linter.unusedVariables false

/-- Bytes that came in. -/
structure ArgB (w : World) (A : Option Addr) (n c : Nat) : Prop where
  cap : n ≤ c
  capm : c ≤ 9223372036854775807
  cells : 0 < n → ∃ b off, A = some ⟨b, off, none⟩ ∧ b < w.heap.size ∧ ∀ k, k < n → ∃ x, w.cell? ⟨b, off + k, none⟩ = some (.int .u8 x) ∧ 0 ≤ x ∧ x ≤ 255
theorem ArgB.ext {w w' : World} {A : Option Addr} {n c : Nat} (h : ArgB w A n c) (k : Ext w w') : ArgB w' A n c := by
  refine ⟨h.cap, h.capm, fun hn => ?_⟩
  obtain ⟨b, off, e, hb, hc⟩ := h.cells hn
  refine ⟨b, off, e, by have := k.size; omega, fun j hj => ?_⟩
  obtain ⟨x, hx, h1⟩ := hc j hj
  exact ⟨x, (k.cell hb).trans hx, h1⟩
theorem Cur.new {w : World} {A : Option Addr} {n c : Nat} (h : ArgB w A n c) : Cur (w.alloc (.cells #[.slice A n c, .int .i64 0, .int .u64 0] 54)) w.heap.size 0 := by
  refine ⟨A, n, c, 0, 0, Blk.new rfl _ _, Nat.le_refl _, Nat.le_trans h.cap h.capm, by omega, by omega, fun h0 => ?_⟩
  obtain ⟨b, off, e, hb, hc⟩ := h.cells h0
  refine ⟨b, off, e, hb, fun j hj => ?_⟩
  obtain ⟨x, hx, h1⟩ := hc j hj
  exact ⟨x, (cellA (by simpa using hb)).trans hx, h1⟩
theorem TchF.ext_of {g : Nat} {w a b : World} (h : Ext w a) (k : TchF [g] a b) (hg : w.heap.size ≤ g) : Ext w b := h.tchF k (by simpa using hg)
theorem kM.end2 {w wz : World} {lo : Nat} {v u0 u1 : Value} {d : MD} (h : RdA kM lo wz v d) (hl : w.heap.size < lo) (hx : Ext w wz) :
    kM.rd ((wz.setCell ⟨w.heap.size, 0, none⟩ u0).setCell ⟨w.heap.size, 1, none⟩ u1) v d ∧ Ext w ((wz.setCell ⟨w.heap.size, 0, none⟩ u0).setCell ⟨w.heap.size, 1, none⟩ u1) :=
  ⟨((h.far (by simpa using hl) u0).far (by simpa using hl) u1).rd, Below.setCell (Below.setCell hx (by simp) _) (by simp) _⟩
theorem kM.end2D {w wz : World} {lo : Nat} {v u0 u1 : Value} {d : MD} (h : RdA kM lo wz v d) (hl : w.heap.size < lo) (hx : Ext w wz) :
    kM.rd ((wz.setCell ⟨w.heap.size, 0, none⟩ u0).setCell ⟨w.heap.size, 1, none⟩ u1).drew v d ∧ Ext w ((wz.setCell ⟨w.heap.size, 0, none⟩ u0).setCell ⟨w.heap.size, 1, none⟩ u1).drew :=
  ⟨kM.rd_ext (kM.end2 h hl hx).1 (Ext.drew _), (kM.end2 h hl hx).2.trans (Ext.drew _)⟩

theorem inr_wrap (x : Int) : InR (IntKind.i64.wrap x) := by
  have h : (Lit.int .i64 (IntKind.i64.wrap x)).wf = true := wf_wrap _ _
  simp [Lit.wf, IntKind.min, IntKind.max, IntKind.signed, IntKind.bits] at h
  unfold InR
  omega
end Go.Proofs.Ytijgndfhfggipaa
