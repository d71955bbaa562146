/- Rows of items that may share their inner memory: reading, and one item put in. -/
import Derived.Test.YtiohjcadmahkgaaGreatZV
namespace Go.Proofs.YtiohjcadmahkgaaGreat
open Go.RowKit Go.Sort
set_option linter.unusedVariables false

theorem LR.none_ {α : Type} {K : Kd α} (w : World) (B : Nat) : LR K w B none 0 [] := ⟨Nat.le_refl _, by decide, fun k x h => by simp at h⟩

/-- A source of cells: m elements that read as news. -/
def SrcF (w : World) (B : Nat) (X : Option Addr) (m : Nat) (news : List Value) : Prop :=
  m = 0 ∨ ∃ b off, X = some ⟨b, off, none⟩ ∧ b < B ∧ ∀ j u, news[j]? = some u → w.cell? ⟨b, off + j, none⟩ = some u
/-- The same as an append asks for it. -/
def SrcE (w : World) (X : Option Addr) (m : Nat) (news : List Value) : Prop :=
  m = 0 ∨ ∃ b off, X = some ⟨b, off, none⟩ ∧ ∀ j u, news[j]? = some u → w.cell? ⟨b, off + j, none⟩ = some u
theorem SrcF.ext {w w' : World} {B m : Nat} {X : Option Addr} {news : List Value} (h : SrcF w B X m news) (k : Ext w w') (hB : B ≤ w.heap.size) : SrcE w' X m news := by
  rcases h with h | ⟨b, off, e, hb, hc⟩
  · exact .inl h
  · exact .inr ⟨b, off, e, fun j u hu => (k.cell (by show b < _; omega)).trans (hc j u hu)⟩
theorem src_one {w : World} {b : Nat} {x0 x1 x2 : Value} {T : TypeId} (h : Blk w b #[x0, x1, x2] T) : SrcE w (some ⟨b, 0, none⟩) 1 [x0, x1, x2] :=
  .inr ⟨b, 0, rfl, fun j u hu => by rw [Nat.zero_add, h.cell]; simpa using hu⟩
theorem row_empty {w : World} {lo H s : Nat} {T : TypeId} (hb : Blk w H #[] T) (hlo : lo ≤ H) : w.ownsRow lo T s (.slice (some ⟨H, 0, none⟩) 0 0) 0 [] :=
  ⟨by simp, .inr ⟨H, 0, #[], rfl, hlo, hb, Nat.le_refl _, by unfold maxLen; omega, by simp, by simp⟩⟩
/-- What an append onto a row behind u leaves of u. -/
theorem Ext.apdF {u w w' : World} {e : TypeId} {s n c lo : Nat} {A : Option Addr} {vs : List Value} (h : Ext u w) (ho : w.ownsRow lo e s (.slice A n c) n vs) (hl : u.heap.size ≤ lo) (hg : w.grownBy w' (A.map (·.block))) : Ext u w' :=
  h.tchF (TchF.of_grown (fp := (A.map (·.block)).toList) hg (fun p hp => by subst hp; simp)) (fun i hi => by
    obtain ⟨q, rfl, rfl⟩ := mem_of_opt hi
    have := (ho.lt q.block rfl).1
    omega)

theorem Blk.apdF {w w' : World} {g : Nat} {A : Option Addr} {cs : Array Value} {t : TypeId} (hb : Blk w g cs t) (hg : w.grownBy w' (A.map (·.block))) (hne : ∀ p, A = some p → p.block ≠ g) : Blk w' g cs t :=
  hb.tchF (TchF.of_grown (fp := (A.map (·.block)).toList) hg (fun p hp => by subst hp; simp)) (fun hm => by
    obtain ⟨q, rfl, h⟩ := mem_of_opt hm
    exact hne q rfl h)
theorem one_item (A1 A2 : Option Addr) (m1 m2 c1 c2 : Nat) (m3 : Bool) : ∀ u ∈ [Value.slice A1 m1 c1, .slice A2 m2 c2, .bool m3], u.oneCell' = true := by
  intro u hu
  simp only [List.mem_cons, List.not_mem_nil, or_false] at hu
  rcases hu with rfl | rfl | rfl <;> rfl

def RowS (w : World) (lo : Nat) (A : Option Addr) (c : Nat) (css : List (List Value)) (out : List ItD) : Prop :=
  w.ownsRow lo 53 3 (.slice A css.length c) css.length css.flatten ∧ css.length = out.length ∧ ∀ (k : Nat) (cs : List Value) (x : ItD), css[k]? = some cs → out[k]? = some x → kdItem.rd w w.heap.size cs x
theorem RowS.none_ (w : World) : RowS w 0 none 0 [] [] := ⟨⟨by simp, .inl ⟨rfl, rfl⟩⟩, rfl, fun k cs x h => by simp at h⟩
section
variable {w w' : World} {lo c : Nat} {A : Option Addr} {css : List (List Value)} {out : List ItD}
theorem RowS.len3 (h : RowS w lo A c css out) : ∀ cs ∈ css, cs.length = 3 := by
  intro cs hcs
  obtain ⟨k, hk, rfl⟩ := List.getElem_of_mem hcs
  have hko : k < out.length := by have := h.2.1; omega
  exact kdItem.rd_len (h.2.2 k _ out[k] (List.getElem?_eq_getElem hk) (List.getElem?_eq_getElem (by have := h.2.1; omega)))
theorem RowS.one (h : RowS w lo A c css out) : ∀ u ∈ css.flatten, u.oneCell' = true := by
  intro u hu
  obtain ⟨cs, hcs, hu⟩ := List.mem_flatten.1 hu
  obtain ⟨k, hk, rfl⟩ := List.getElem_of_mem hcs
  have hko : k < out.length := by have := h.2.1; omega
  exact kdItem.rd_one (h.2.2 k _ out[k] (List.getElem?_eq_getElem hk) (List.getElem?_eq_getElem (by have := h.2.1; omega))) u hu
theorem flat3 : ∀ {css : List (List Value)}, (∀ cs ∈ css, cs.length = 3) → css.flatten.length = css.length * 3
  | [], _ => rfl
  | c :: t, h => by
    rw [List.flatten_cons, List.length_append, h c (by simp), flat3 (fun x hx => h x (by simp [hx])), List.length_cons]
    omega
theorem RowS.pos (h : RowS w lo A c css out) (hn : 0 < out.length) : ∃ g, A = some ⟨g, 0, none⟩ ∧ lo ≤ g ∧ g < w.heap.size := by
  rcases h.1.2 with ⟨_, h2⟩ | ⟨g, cap, cur, h1, h2, h3, _⟩
  · have := h.2.1; omega
  · simp only [Value.slice.injEq] at h1
    obtain ⟨rfl, _, _⟩ := h1
    refine ⟨g, rfl, h2, ?_⟩
    rcases Nat.lt_or_ge g w.heap.size with hlt | hge
    · exact hlt
    · rw [Array.getElem?_eq_none hge] at h3; cases h3
theorem RowS.cap (h : RowS w lo A c css out) : out.length ≤ c ∧ c ≤ 9223372036854775807 := by
  have e := h.2.1
  rcases h.1.2 with ⟨h1, h2⟩ | ⟨g, cap, cur, h1, h2, h3, h4, h5, _⟩
  · simp only [Value.slice.injEq] at h1
    omega
  · simp only [Value.slice.injEq] at h1
    unfold maxLen at h5
    omega
theorem RowS.cells (h : RowS w lo A c css out) {g : Nat} (hA : A = some ⟨g, 0, none⟩) : ∀ j u, css.flatten[j]? = some u → w.cell? ⟨g, j, none⟩ = some u := by
  intro j u hu
  subst hA
  have hj := (List.getElem?_eq_some_iff.1 hu).1
  rw [flat3 h.len3] at hj
  rw [World.ownsRow.cellAt h.1 j hj, hu]
theorem RowS.lr (h : RowS w lo A c css out) : LR kdItem w w.heap.size A c out := by
  refine ⟨h.cap.1, h.cap.2, fun k x hx => ?_⟩
  have hk : k < out.length := (List.getElem?_eq_some_iff.1 hx).1
  have hkc : k < css.length := by have := h.2.1; omega
  obtain ⟨g, rfl, _, hg⟩ := h.pos (by omega)
  refine ⟨g, 0, css[k], rfl, hg, h.2.2 k _ x (List.getElem?_eq_getElem hkc) hx, fun j u hu => ?_⟩
  rw [Nat.zero_add]
  have hj : j < 3 := by have := (List.getElem?_eq_some_iff.1 hu).1; rwa [h.len3 _ (List.getElem_mem hkc)] at this
  refine h.cells rfl _ _ ?_
  show css.flatten[k * 3 + j]? = _
  rw [flatten_at h.len3 k j _ (List.getElem?_eq_getElem hkc) hj]
  exact hu
theorem RowS.ext (h : RowS w lo A c css out) (k : Ext w w') : RowS w' lo A c css out := by
  refine ⟨⟨h.1.1, ?_⟩, h.2.1, fun j cs x h1 h2 => kdItem.rd_more (kdItem.rd_ext (h.2.2 j cs x h1 h2) k (Nat.le_refl _)) k.size⟩
  rcases h.1.2 with hh | ⟨g, cap, cur, h1, h2, h3, r⟩
  · exact .inl hh
  · refine .inr ⟨g, cap, cur, h1, h2, ?_, r⟩
    have hg : g < w.heap.size := by
      rcases Nat.lt_or_ge g w.heap.size with hlt | hge
      · exact hlt
      · rw [Array.getElem?_eq_none hge] at h3; cases h3
    rw [k.block g hg, h3]
theorem RowS.split (css : List (List Value)) (p : Nat) : (css.take p).flatten ++ (css.drop p).flatten = css.flatten := by rw [← List.flatten_append, List.take_append_drop]
theorem RowS.takeLen (h : RowS w lo A c css out) {p : Nat} (hp : p ≤ out.length) : (css.take p).flatten.length = p * 3 := by
  rw [flat3 (fun x hx => h.len3 x (List.mem_of_mem_take hx)), List.length_take, Nat.min_eq_left (by have := h.2.1; omega)]
theorem RowS.dropLen (h : RowS w lo A c css out) (p : Nat) : (css.drop p).flatten.length = (out.length - p) * 3 := by
  rw [flat3 (fun x hx => h.len3 x (List.mem_of_mem_drop hx)), List.length_drop, h.2.1]
theorem RowS.take (h : RowS w lo A c css out) {p : Nat} (hp : p ≤ out.length) : SrcF w w.heap.size A p (css.take p).flatten := by
  rcases Nat.eq_zero_or_pos p with h0 | h0
  · exact .inl h0
  obtain ⟨g, rfl, _, hg⟩ := h.pos (by omega)
  refine .inr ⟨g, 0, rfl, hg, fun j u hu => ?_⟩
  rw [Nat.zero_add]
  refine h.cells rfl j u ?_
  rw [← RowS.split css p, List.getElem?_append_left (List.getElem?_eq_some_iff.1 hu).1]
  exact hu
theorem RowS.drop (h : RowS w lo A c css out) {p : Nat} (hp : p ≤ out.length) {X : Option Addr} (hX : p < out.length → ∀ g, A = some ⟨g, 0, none⟩ → X = some ⟨g, p * 3, none⟩) : SrcF w w.heap.size X (out.length - p) (css.drop p).flatten := by
  rcases Nat.eq_zero_or_pos (out.length - p) with h0 | h0
  · exact .inl h0
  obtain ⟨g, rfl, _, hg⟩ := h.pos (by omega)
  refine .inr ⟨g, p * 3, hX (by omega) g rfl, hg, fun j u hu => ?_⟩
  refine h.cells rfl _ u ?_
  rw [← RowS.split css p, List.getElem?_append_right (by rw [h.takeLen hp]; omega), h.takeLen hp, show p * 3 + j - p * 3 = j by omega]
  exact hu
theorem RowS.ins (h : RowS w lo A c css out) {xc : List Value} {x : ItD} {p m lo' c' : Nat} {A' : Option Addr} (hx : kdItem.rd w w.heap.size xc x) (hp : p ≤ out.length) (hr : w'.ownsRow lo' 53 3 (.slice A' m c') m (((css.take p).flatten ++ xc) ++ (css.drop p).flatten)) (hm : m = out.length + 1) (k : Ext w w') : RowS w' 0 A' c' (insAt css xc p) (insAt out x p) := by
  have hl : (insAt css xc p).length = m := by rw [insAt_len, hm, h.2.1]
  have hf : (insAt css xc p).flatten = ((css.take p).flatten ++ xc) ++ (css.drop p).flatten := by
    unfold insAt
    rw [List.flatten_append, List.flatten_cons, List.append_assoc]
  refine ⟨by rw [hl, hf]; exact ⟨hr.1, hr.2.imp id (fun ⟨g, cap, cur, h1, _, r⟩ => ⟨g, cap, cur, h1, Nat.zero_le _, r⟩)⟩, by rw [hl, insAt_len, hm], fun j cs y h1 h2 => kdItem.rd_more (kdItem.rd_ext ?_ k (Nat.le_refl _)) k.size⟩
  have e1 : (css.take p).length = p := by rw [List.length_take, Nat.min_eq_left (by have := h.2.1; omega)]
  have e2 : (out.take p).length = p := by rw [List.length_take, Nat.min_eq_left hp]
  unfold insAt at h1 h2
  rcases Nat.lt_trichotomy j p with hlt | rfl | hgt
  · rw [List.getElem?_append_left (by omega)] at h1 h2
    rw [List.getElem?_take_of_lt hlt] at h1 h2
    exact h.2.2 j cs y h1 h2
  · rw [List.getElem?_append_right (by omega)] at h1 h2
    rw [e1, Nat.sub_self] at h1
    rw [e2, Nat.sub_self] at h2
    simp only [List.getElem?_cons_zero, Option.some.injEq] at h1 h2
    subst h1 h2
    exact hx
  · obtain ⟨q, rfl⟩ : ∃ q, j = p + 1 + q := ⟨j - (p + 1), by omega⟩
    rw [List.getElem?_append_right (by omega)] at h1 h2
    rw [e1, show p + 1 + q - p = q + 1 by omega, List.getElem?_cons_succ, List.getElem?_drop] at h1
    rw [e2, show p + 1 + q - p = q + 1 by omega, List.getElem?_cons_succ, List.getElem?_drop] at h2
    exact h.2.2 (p + q) cs y h1 h2
end
theorem step_append_flat0 {P : Program} {t e : TypeId} {size bytes : Nat} {z : Value} {w : World} {lo c m d : Nat} {A X : Option Addr} {news : List Value} {ops : Array Oper} {o : Oper} {a : Act} {KK : Act → World → Prop} {Q : Exit → Act → World → Prop} {G : Prop} (hgd : o.guard = none) (s x : Operand)
    (ho : o.op = .call { callee := .builtin .append, args := #[s, x], argTypes := #[t, t] }) (E : ElemN P t e size bytes z) (hs0 : 0 < size)
    (hs' : a.eval s = .slice A 0 c) (hx' : a.eval x = .slice X m d) (h : w.ownsRow lo e size (.slice A 0 c) 0 []) (hl : news.length = m * size) (hX : SrcE w X m news) (h1 : ∀ u ∈ news, u.oneCell' = true) (hb : m * bytes ≤ 140737488355328) (hm : m ≤ 4611686018427387904) (hlo : lo ≤ w.heap.size)
    (hK : ∀ A' c' w', w'.ownsRow lo e size (.slice A' m c') m news → w.grownBy w' (A.map (·.block)) → (A'.map (·.block) = A.map (·.block) ∨ A'.map (·.block) = some w.heap.size) → KK (a.put o.dst (.slice A' m c')) w') :
    if Region.wanted o (yielded ops a.tmps) = true then Oper.wp P o a w KK Q else G := by
  refine step_append_flat hgd s x ho E hs0 hs' hx' h hl hX h1 (by rw [Nat.zero_add]; exact hb) (by rw [Nat.zero_add]; exact hm) hlo (fun A' c' w' h2 h3 h4 => ?_)
  rw [Nat.zero_add] at h2 ⊢
  exact hK A' c' w' h2 h3 h4
theorem bdsP {p k : Nat} (hp : p ≤ k) (hk : k ≤ 14) : p * 56 ≤ 140737488355328 ∧ p ≤ 4611686018427387904 ∧ (p + 1) * 56 ≤ 140737488355328 ∧ p + 1 ≤ 4611686018427387904 ∧ (p + 1 + (k - p)) * 56 ≤ 140737488355328 ∧ p + 1 + (k - p) ≤ 4611686018427387904 := by
  refine ⟨?_, ?_, ?_, ?_, ?_, ?_⟩ <;> omega
end Go.Proofs.YtiohjcadmahkgaaGreat
