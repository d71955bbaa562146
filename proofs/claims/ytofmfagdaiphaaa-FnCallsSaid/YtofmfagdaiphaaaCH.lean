/- Helpers of the copied sheet. -/
import Derived.Test.YtofmfagdaiphaaaSC
namespace Go.Proofs.Ytofmfagdaiphaaa
open Go.RowKit Go.Sort
set_option linter.unusedVariables false

def rvCs (r : RvD) : List Value := [.int .i64 r.1, .int .i64 r.2.1, .int .i64 r.2.2]
theorem rvCs_len (xs : List RvD) : (xs.map rvCs).flatten.length = xs.length * 3 := by
  induction xs with
  | nil => rfl
  | cons x t ih => rw [List.map_cons, List.flatten_cons, List.length_append, ih, List.length_cons]; show 3 + _ = _; omega
theorem rvCs_one (xs : List RvD) : ∀ u ∈ (xs.map rvCs).flatten, u.oneCell' = true := by
  intro u hu
  obtain ⟨l, hl, hu⟩ := List.mem_flatten.1 hu
  obtain ⟨r, _, rfl⟩ := List.mem_map.1 hl
  simp only [rvCs, List.mem_cons, List.not_mem_nil, or_false] at hu
  rcases hu with rfl | rfl | rfl <;> rfl
theorem LR.rvSrc {w : World} {B c : Nat} {A : Option Addr} {xs : List RvD} (h : LR kdRv w B A c xs) : xs.length = 0 ∨ ∃ b off, A = some ⟨b, off, none⟩ ∧ b < B ∧ ∀ j u, (xs.map rvCs).flatten[j]? = some u → w.cell? ⟨b, off + j, none⟩ = some u := by
  by_cases h0 : xs.length = 0
  · exact .inl h0
  right
  obtain ⟨b, off, rfl, hb, _⟩ := h.review 0 xs[0] (List.getElem?_eq_getElem (by omega))
  refine ⟨b, off, rfl, hb, fun j u hu => ?_⟩
  have hj : j < xs.length * 3 := by have := (List.getElem?_eq_some_iff.1 hu).1; rwa [rvCs_len] at this
  have hk : j / 3 < xs.length := by omega
  obtain ⟨b', off', e, _, q0, q1, q2⟩ := h.review (j / 3) xs[j / 3] (List.getElem?_eq_getElem hk)
  simp only [Option.some.injEq, Addr.mk.injEq, and_true] at e
  obtain ⟨rfl, rfl⟩ := e
  have hf := flatten_at (s := 3) (css := xs.map rvCs) (fun cs hcs => by obtain ⟨r, _, rfl⟩ := List.mem_map.1 hcs; rfl) (j / 3) (j % 3) (rvCs xs[j / 3]) (by rw [List.getElem?_map, List.getElem?_eq_getElem hk]; rfl) (Nat.mod_lt _ (by decide))
  rw [show j / 3 * 3 + j % 3 = j from by omega, hu] at hf
  have hm : j % 3 = 0 ∨ j % 3 = 1 ∨ j % 3 = 2 := by omega
  rcases hm with hm | hm | hm
  · rw [hm] at hf
    have : u = .int .i64 xs[j / 3].1 := by simpa [rvCs] using hf
    rw [this, show off + j = off + j / 3 * 3 from by omega]
    exact q0
  · rw [hm] at hf
    have : u = .int .i64 xs[j / 3].2.1 := by simpa [rvCs] using hf
    rw [this, show off + j = off + j / 3 * 3 + 1 from by omega]
    exact q1
  · rw [hm] at hf
    have : u = .int .i64 xs[j / 3].2.2 := by simpa [rvCs] using hf
    rw [this, show off + j = off + j / 3 * 3 + 2 from by omega]
    exact q2
/-- A row of reviews, as a list of its own. -/
theorem LO.rv {w : World} {A : Option Addr} {n c : Nat} {xs : List RvD} (h : w.ownsRow 0 30 3 (.slice A n c) n (xs.map rvCs).flatten) (hn : n = xs.length) : LO kdRv 30 w A c xs (A.map (·.block)).toList :=
  LO.flat rvCs (fun x _ => kdRv.mkOwn w x) h hn

theorem LO.emptyVAt {w : World} {H : Nat} (hH : w.heap.size = H) : LO kdLL 43 (w.alloc (.cells #[] 43)) (some ⟨H, 0, none⟩) 0 [] [H] := by subst hH; exact LO.emptyV w
theorem rv_done {u w4 : World} {A4 : Option Addr} {c4 m g : Nat} {xs : List RvD} (x : Ext u w4) (hb : Blk u g #[] 30) (hm : xs.length = m) (h : (m = 0 ∧ A4 = some ⟨g, 0, none⟩ ∧ c4 = 0) ∨ w4.ownsRow u.heap.size 30 3 (.slice A4 m c4) m (xs.map rvCs).flatten) :
    ∃ fp4, LO kdRv 30 w4 A4 c4 xs fp4 ∧ ∀ i ∈ fp4, i = g ∨ u.heap.size ≤ i := by
  rcases h with ⟨h0, rfl, rfl⟩ | h
  · have hx : xs = [] := List.eq_nil_of_length_eq_zero (by omega)
    subst hx
    have h2 := hb.ext x
    refine ⟨[g], ⟨[], [], ⟨by simp, .inr ⟨g, 0, #[], rfl, Nat.zero_le _, h2, Nat.le_refl _, by unfold maxLen; omega, rfl, rfl⟩⟩, rfl, rfl, by simp, rfl, by simp⟩, fun i hi => by simp at hi; exact .inl hi⟩
  · have hl : w4.ownsRow 0 30 3 (.slice A4 m c4) m (xs.map rvCs).flatten := by
      refine ⟨h.1, ?_⟩
      rcases h.2 with h | ⟨g', cap, cur, h, h1, r⟩
      · exact .inl h
      · exact .inr ⟨g', cap, cur, h, Nat.zero_le _, r⟩
    refine ⟨_, LO.rv hl hm.symm, fun i hi => .inr ?_⟩
    obtain ⟨q, rfl, rfl⟩ := mem_of_opt hi
    exact (h.lt q.block rfl).1
end Go.Proofs.Ytofmfagdaiphaaa
