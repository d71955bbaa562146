/- A judge dropped: the plain part; a row in marks of the call's own, shortened in place. -/
import Derived.Test.YtnokilofcdbjhaaGreatDoorGM
import Derived.Test.YtnokilofcdbjhaaGreatDoorGA
namespace Go.Proofs.YtnokilofcdbjhaaGreatDoor
open Go.RowKit Go.Sort
set_option linter.unusedVariables false

def cutJ (j : Nat) (x : List Int) : List Int := x.take j ++ x.drop (j + 1)
def dropN (xs : List (List Int)) (j k : Nat) : List (List Int) := (xs.map (cutJ j)).take k ++ xs.drop k
section
variable (xs : List (List Int)) (j k : Nat)
theorem dropN_zero : dropN xs j 0 = xs := by simp [dropN]
theorem dropN_all (h : xs.length ≤ k) : dropN xs j k = xs.map (cutJ j) := by
  unfold dropN
  rw [List.take_of_length_le (by simpa using h), List.drop_eq_nil_of_le h, List.append_nil]
theorem dropN_len : (dropN xs j k).length = xs.length := by simp [dropN]; omega
theorem dropN_at (h : k < xs.length) : (dropN xs j k)[k]? = xs[k]? := by
  have e : ((xs.map (cutJ j)).take k).length = k := by simp; omega
  unfold dropN
  rw [List.getElem?_append_right (by omega), e, Nat.sub_self, List.getElem?_drop, Nat.add_zero]
theorem dropN_set (x : List Int) (hx : xs[k]? = some x) : (dropN xs j k).set k (cutJ j x) = dropN xs j (k + 1) := by
  obtain ⟨hk, rfl⟩ := List.getElem?_eq_some_iff.1 hx
  have e : ((xs.map (cutJ j)).take k).length = k := by simp; omega
  unfold dropN
  rw [List.set_append_right _ _ (by omega), e, Nat.sub_self, List.drop_eq_getElem_cons hk, List.set_cons_zero, List.take_succ_eq_append_getElem (by simpa using hk), List.append_assoc]
  simp
end
theorem cutJ_len (j : Nat) (x : List Int) : (cutJ j x).length ≤ x.length := by simp [cutJ]; omega
theorem dropJ_wt (xs : List (List Int)) (j : Nat) : wtL kdL (xs.map (cutJ j)) ≤ wtL kdL xs := by
  induction xs with
  | nil => exact Nat.le_refl _
  | cons x t ih =>
    have h1 : kdL.wt (cutJ j x) = (cutJ j x).length := wtL_int _
    have h2 : kdL.wt x = x.length := wtL_int _
    have h3 := cutJ_len j x
    show 1 + kdL.wt (cutJ j x) + wtL kdL (t.map (cutJ j)) ≤ 1 + kdL.wt x + wtL kdL t
    omega
theorem dropJ_ok {d : MD} (j : Nat) (h : kM.ok d) : kM.ok (d.1.map (cutJ j), d.2.map (cutJ j)) := by
  have h1 := dropJ_wt d.1 j
  have h2 := dropJ_wt d.2 j
  have h3 : kdM.wt (d.1.map (cutJ j), d.2.map (cutJ j)) = wtL kdL (d.1.map (cutJ j)) + wtL kdL (d.2.map (cutJ j)) := rfl
  have h4 : kdM.wt d = wtL kdL d.1 + wtL kdL d.2 := rfl
  have h5 : kdM.wt d ≤ 1048576 := h
  show kdM.wt _ ≤ 1048576
  omega
def dropJudgeF (d : MD) (j : Int) : MD × Bool := if hasJudge d j then ifMarks (d.1.map (cutJ j.toNat), d.2.map (cutJ j.toNat)) else (([], []), false)

theorem LO.shrink {w : World} {A : Option Addr} {c : Nat} {xs : List (List Int)} {fp : List Nat} (h : LO kdL 31 w A c xs fp) (k : Nat) (x : List Int) (hx : xs[k]? = some x) (hp : 0 < x.length) :
    ∃ g gx cx, A = some ⟨g, 0, none⟩ ∧ g ∈ fp ∧ w.cell? ⟨g, k, none⟩ = some (.slice (some ⟨gx, 0, none⟩) x.length cx) ∧ w.frozen? ⟨g, k, none⟩ = false ∧ OwnI 3 w 0 (some ⟨gx, 0, none⟩) x.length cx x ∧
      ∀ w' n2 x2, OwnI 3 w' 0 (some ⟨gx, 0, none⟩) n2 cx x2 → w.grownBy w' (some gx) → w'.cell? ⟨g, k, none⟩ = some (.slice (some ⟨gx, 0, none⟩) x.length cx) ∧ w'.frozen? ⟨g, k, none⟩ = false ∧ TchF fp w w' ∧
        ∃ fp', LO kdL 31 (w'.setCell ⟨g, k, none⟩ (.slice (some ⟨gx, 0, none⟩) n2 cx)) A c (xs.set k x2) fp' ∧ ∀ i ∈ fp', i ∈ fp := by
  obtain ⟨g, cs, f, hat⟩ := h.at_ k x hx
  obtain ⟨Ax, cx, hcs, hlo⟩ := hat.own
  have hcs : cs = [.slice Ax x.length cx] := hcs
  subst hcs
  obtain ⟨ho, hf⟩ := hlo.own
  obtain ⟨gx, rfl, _, _, _⟩ := ho.pos hp
  have hm : gx ∈ f := by rw [hf]; simp
  have hc : w.cell? ⟨g, k, none⟩ = some (.slice (some ⟨gx, 0, none⟩) x.length cx) := by
    have := hat.cell 0 _ rfl
    simpa [kdL, kdList] using this
  refine ⟨g, gx, cx, hat.addr, hat.mem, hc, hat.free k, ho, fun w' n2 x2 ho2 hg => ?_⟩
  have ht : TchF f w w' := TchF.of_grown (A := some ⟨gx, 0, none⟩) hg (fun p hp => by cases hp; exact hm)
  have hgf : g ∉ f := fun hm => (hat.sub g hm).2 rfl
  have hb := ht.block g hat.lt hgf
  have hko := own_row ho2
  obtain ⟨fp', h1, h2⟩ := hat.store w' _ x2 _ hko ht (fun i hi => by
    left
    simp at hi
    rw [hi]; exact hm)
  rw [one_cells w' g k _ kdL.size rfl] at h1
  refine ⟨(World.cell?_of_block (w := w) hb).trans hc, (World.frozen?_of_block (w := w) hb).trans (hat.free k), ht.more (fun i hi => (hat.sub i hi).1), fp', h1, fun i hi => ?_⟩
  rcases h2 i hi with h3 | h3
  · exact h3
  · simp at h3
    rw [h3]; exact (hat.sub _ hm).1
end Go.Proofs.YtnokilofcdbjhaaGreatDoor
