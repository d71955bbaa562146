/- A row in marks of the call's own, grown. -/
import Derived.Test.YtijgndfhfggipaaMN
namespace Go.Proofs.Ytijgndfhfggipaa
open Go.RowKit Go.Sort
set_option linter.unusedVariables false

theorem LO.grow {w : World} {A : Option Addr} {c : Nat} {xs : List (List Int)} {fp : List Nat} (h : LO kdL 24 w A c xs fp) (k : Nat) (x : List Int) (hx : xs[k]? = some x) :
    ∃ g Ax cx, A = some ⟨g, 0, none⟩ ∧ g ∈ fp ∧ w.cell? ⟨g, k, none⟩ = some (.slice Ax x.length cx) ∧ w.frozen? ⟨g, k, none⟩ = false ∧ OwnI 3 w 0 Ax x.length cx x ∧ (∀ p, Ax = some p → p.block ∈ fp ∧ p.block ≠ g) ∧
      ∀ w' A2 n2 c2 x2, Apd 3 w 0 Ax w' A2 n2 c2 (x2.map (Value.int .i64)) → w'.cell? ⟨g, k, none⟩ = some (.slice Ax x.length cx) ∧ w'.frozen? ⟨g, k, none⟩ = false ∧ TchF fp w w' ∧
        ∃ fp', LO kdL 24 (w'.setCell ⟨g, k, none⟩ (.slice A2 n2 c2)) A c (xs.set k x2) fp' ∧ ∀ i ∈ fp', i ∈ fp ∨ i = w.heap.size := by
  obtain ⟨g, cs, f, hat⟩ := h.at_ k x hx
  obtain ⟨Ax, cx, hcs, hlo⟩ := hat.own
  have hcs : cs = [.slice Ax x.length cx] := hcs
  subst hcs
  obtain ⟨ho, hf⟩ := hlo.own
  have hc : w.cell? ⟨g, k, none⟩ = some (.slice Ax x.length cx) := by
    have := hat.cell 0 _ rfl
    simpa [kdL, kdList] using this
  have hAx : ∀ p, Ax = some p → p.block ∈ f := fun p hp => by rw [hf, hp]; simp
  refine ⟨g, Ax, cx, hat.addr, hat.mem, hc, hat.free k, ho, fun p hp => hat.sub _ (hAx p hp), fun w' A2 n2 c2 x2 hap => ?_⟩
  have ht : TchF f w w' := TchF.of_grown hap.grew hAx
  have hgf : g ∉ f := fun hm => (hat.sub g hm).2 rfl
  have hb := ht.block g hat.lt hgf
  have hi : OwnI 3 w' 0 A2 n2 c2 x2 := hap.own
  have hko := own_row hi
  obtain ⟨fp', h1, h2⟩ := hat.store w' _ x2 _ hko ht (fun i hi => by
    obtain ⟨p, hp, rfl⟩ := mem_of_opt hi
    rcases hap.where_ with hw | hw
    · left
      rw [hp] at hw
      cases Ax with
      | none => simp at hw
      | some q => simp at hw; rw [hw]; exact hAx q rfl
    · right
      rw [hp] at hw
      simp at hw
      intro hm
      have := h.lt _ hm
      omega)
  rw [one_cells w' g k _ kdL.size rfl] at h1
  refine ⟨(World.cell?_of_block (w := w) hb).trans hc, (World.frozen?_of_block (w := w) hb).trans (hat.free k), ht.more (fun i hi => (hat.sub i hi).1), fp', h1, fun i hi => ?_⟩
  rcases h2 i hi with h3 | h3
  · exact .inl h3
  · obtain ⟨p, hp, rfl⟩ := mem_of_opt h3
    rcases hap.where_ with hw | hw
    · left
      rw [hp] at hw
      cases Ax with
      | none => simp at hw
      | some q => simp at hw; rw [hw]; exact (hat.sub _ (hAx q rfl)).1
    · right
      rw [hp] at hw
      simpa using hw

/-- Lists, each with one number more, as far as k. -/
def addN (xs : List (List Int)) (zs : List Int) : Nat → List (List Int)
  | 0 => xs
  | k + 1 => (addN xs zs k).set k ((addN xs zs k).getD k [] ++ [zs.getD k 0])
theorem addN_len (xs : List (List Int)) (zs : List Int) : ∀ k, (addN xs zs k).length = xs.length
  | 0 => rfl
  | k + 1 => by simp [addN, addN_len xs zs k]
theorem addN_at (xs : List (List Int)) (zs : List Int) : ∀ k j, k ≤ j → (addN xs zs k)[j]? = xs[j]?
  | 0, _, _ => rfl
  | k + 1, j, h => by simp only [addN]; rw [List.getElem?_set_ne (by omega)]; exact addN_at xs zs k j (by omega)
theorem wtL_grow {α : Type} (K : Kd α) (xs : List α) (k : Nat) (x x' : α) (h : xs[k]? = some x) (hw : K.wt x' = K.wt x + 1) : wtL K (xs.set k x') = wtL K xs + 1 := by
  induction xs generalizing k with
  | nil => simp at h
  | cons y t ih =>
    cases k with
    | zero => simp at h; subst h; show 1 + K.wt x' + wtL K t = 1 + K.wt y + wtL K t + 1; omega
    | succ k => simp at h; have := ih k h; show 1 + K.wt y + wtL K (t.set k x') = 1 + K.wt y + wtL K t + 1; omega
theorem addN_wt (xs : List (List Int)) (zs : List Int) : ∀ k, k ≤ xs.length → wtL kdL (addN xs zs k) = wtL kdL xs + k
  | 0, _ => rfl
  | k + 1, hk => by
    have ih := addN_wt xs zs k (by omega)
    have hl := addN_len xs zs k
    have hx : (addN xs zs k)[k]? = some ((addN xs zs k).getD k []) := by rw [List.getD_eq_getElem?_getD, List.getElem?_eq_getElem (by omega)]; rfl
    have h1 := wtL_grow kdL (addN xs zs k) k _ ((addN xs zs k).getD k [] ++ [zs.getD k 0]) hx (by
      have h2 : ∀ y : List Int, kdL.wt y = y.length := fun y => wtL_int y
      rw [h2, h2]; simp)
    show wtL kdL ((addN xs zs k).set k _) = _
    rw [h1, ih]; omega
theorem wtL_small (xs : List (List Int)) (h : ∀ x ∈ xs, x.length ≤ 9) : wtL kdL xs ≤ 10 * xs.length := by
  induction xs with
  | nil => exact Nat.le_refl _
  | cons x t ih =>
    have h1 := ih (fun y hy => h y (List.mem_cons_of_mem _ hy))
    have h2 : kdL.wt x = x.length := wtL_int x
    have h3 := h x (List.mem_cons_self ..)
    show 1 + kdL.wt x + wtL kdL t ≤ 10 * (t.length + 1)
    omega
def addJudgeF (d : MD) (gs cs : List Int) : MD × Bool := if marksB d && decide (gs.length = d.1.length) && decide (cs.length = 3) then ifMarks (addN d.1 gs gs.length, addN d.2 cs cs.length) else (([], []), false)
theorem addJ_ok {d : MD} {gs cs : List Int} (h : marksB d = true) (h1 : gs.length = d.1.length) (h2 : cs.length = 3) : kM.ok (addN d.1 gs gs.length, addN d.2 cs cs.length) := by
  obtain ⟨r1, r2, _, r4, r5, r6⟩ := marksB_ok h
  have e1 := addN_wt d.1 gs gs.length (by omega)
  have e2 := addN_wt d.2 cs cs.length (by omega)
  have s1 := wtL_small d.1 (fun x hx => by have := (r5 x hx).1; omega)
  have s2 := wtL_small d.2 (fun x hx => by have := (r6 x hx).1; omega)
  have e3 : kdM.wt (addN d.1 gs gs.length, addN d.2 cs cs.length) = wtL kdL (addN d.1 gs gs.length) + wtL kdL (addN d.2 cs cs.length) := rfl
  show kdM.wt _ ≤ 1048576
  omega
end Go.Proofs.Ytijgndfhfggipaa
