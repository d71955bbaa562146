/- Sheets weighed with what is left. -/
import Derived.Test.YtigfhllnfgfdoaaOT
namespace Go.Proofs.Ytigfhllnfgfdoaa
theorem kSm.szL (w : World) (v : Value) (d : ShD) (l : Nat) (h : kSm.rd w v d) (h0 : 0 ≤ (l : Int)) (h1 : (l : Int) ≤ 1048576) : Calls Try.prog 15 #[v, .int .i64 l] w fun e w' => e = .returned (.int .i64 (if (kSm.wt d : Int) ≤ l then l - kSm.wt d else -1)) ∧ Ext w w' := by
  obtain ⟨vs, rfl, h⟩ := h
  exact kdSh.sz _ _ d _ h h0 h1
end Go.Proofs.Ytigfhllnfgfdoaa
