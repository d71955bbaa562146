/- GV: ZV, ZW, ZX, ZY in one text. -/
import Derived.Test.YtegoapdbpfhkiaaGreatGW
import Derived.Test.YtegoapdbpfhkiaaGreatCL
import Derived.Deep.RegionHeld3
/- The reference's order: plainly; an item's full base if it is not late. -/
namespace Go.Proofs.YtegoapdbpfhkiaaGreat
open Go.RowKit Go.Sort
set_option linter.unusedVariables false

def ltE (d : CoD) (x y : ItD) : Bool := decide (fullF d (earlyD x) < fullF d (earlyD y))
theorem posS_map (d : CoD) (out : List ItD) (y : ItD) : ∀ k, k ≤ out.length → posS (ltF d) (out.map earlyD) (earlyD y) k = posS (ltE d) out y k
  | 0, _ => rfl
  | k + 1, h => by
    unfold posS
    have e : (out.map earlyD).getD k default = earlyD (out.getD k default) := by
      rw [List.getD_eq_getElem?_getD, List.getD_eq_getElem?_getD, List.getElem?_map, List.getElem?_eq_getElem (by omega)]
      rfl
    rw [posS_map d out y k (by omega), e]
    rfl
theorem insS_map (d : CoD) (out : List ItD) (y : ItD) : insS (ltF d) (out.map earlyD) (earlyD y) = (insS (ltE d) out y).map earlyD := by
  unfold insS insAt
  rw [List.length_map, posS_map d out y _ (Nat.le_refl _), List.map_append, List.map_cons, List.map_take, List.map_drop]
theorem sortS_map (d : CoD) (xs : List ItD) : sortS (ltF d) (xs.map earlyD) = (sortS (ltE d) xs).map earlyD := by
  have h : ∀ (ys out : List ItD), (ys.map earlyD).foldl (insS (ltF d)) (out.map earlyD) = (ys.foldl (insS (ltE d)) out).map earlyD := by
    intro ys
    induction ys with
    | nil => intro out; rfl
    | cons y t ih =>
      intro out
      rw [List.map_cons, List.foldl_cons, List.foldl_cons, insS_map, ih]
  exact h xs []
theorem lateL_map (xs : List ItD) : lateL (xs.map earlyD) = lateL xs := by
  unfold lateL
  rw [List.length_map]
  refine List.map_congr_left fun i hi => ?_
  have hi := List.mem_range.1 hi
  rw [List.getD_eq_getElem?_getD, List.getD_eq_getElem?_getD, List.getElem?_map, List.getElem?_eq_getElem hi]
  rfl
theorem orderL_E (d : CoD) (xs : List ItD) : lateL (sortS (ltE d) xs) = orderL d xs := by
  unfold orderL
  rw [sortS_map, lateL_map]
theorem sortE_succ (d : CoD) {xs : List ItD} {k : Nat} {x : ItD} (h : xs[k]? = some x) : sortS (ltE d) (xs.take (k + 1)) = insS (ltE d) (sortS (ltE d) (xs.take k)) x := by
  obtain ⟨hk, rfl⟩ := List.getElem?_eq_some_iff.1 h
  unfold sortS
  rw [List.take_succ_eq_append_getElem hk, List.foldl_append]
  rfl

set_option maxRecDepth 100000 in
set_option maxHeartbeats 1000000 in
theorem s.pnFull_m (w : World) (v : Value) (d : CoD) (vs : List Value) (x : ItD) (h : kC.rd w v d) (hok : kC.ok d) (hd : CodeOk d) (hx : kdItem.rd w w.heap.size vs x) (hi : ItOk d x) :
    Calls Tryz.prog 92 #[v, kdItem.val vs] w fun e w' => e = .returned (.int .i64 (fullF d (earlyD x))) ∧ Ext w w' := by
  obtain ⟨Ac, nc, cc, Al, nl, cl, rr, b, p, f, rfl⟩ := kC.shape h
  obtain ⟨A1, c1, A2, c2, rfl, h1, h2⟩ := kdItem.open_ hx
  rw [kdItem.val3]
  obtain ⟨W0, hW0⟩ : ∃ W0, Hid (W0 = (w.alloc (.cells #[.slice Ac nc cc, .slice Al nl cl, .int .i64 rr, .int .i64 b, .int .i64 p, .int .i64 f] 26)).alloc (.cells #[.slice A1 x.1.length c1, .slice A2 x.2.1.length c2, .bool false] 51)) := ⟨_, rfl⟩
  have X0 : Hid (Ext w W0) := by rw [hW0.out]; exact (Ext.alloc w _).trans (Ext.alloc _ _)
  have mk := kdItem.mk_ (d := earlyD x) (h1.ext X0.out (Nat.le_refl _)) (h2.ext X0.out (Nat.le_refl _))
  have BF := hide (s.bsFull_m W0 _ d _ (earlyD x) (kC.rd_ext h X0.out) hok hd (kdItem.rd_more mk X0.out.size) (itOk_early hi))
  rw [kdItem.val3] at BF
  have e1 : (earlyD x).1 = x.1 := rfl
  have e2 : (earlyD x).2.1 = x.2.1 := rfl
  have e3 : (earlyD x).2.2 = false := rfl
  rw [e1, e2, e3] at BF
  have a1 := h1.1; have a2 := h1.2.1; have a3 := h2.1; have a4 := h2.2.1
  clear e1 e2 e3 mk h hx h1 h2 hi
  generalize fullF d (earlyD x) = F at *
  generalize x.1.length = m1 at *
  generalize x.2.1.length = m2 at *
  generalize x.2.2 = m3 at *
  go_enter Tryz.func92, Tryz.ntmps92
  go_wp2_with fail
  rw [← hW0.out]
  clear hW0
  refine BF.out.mono ?_
  rintro e w1 ⟨rfl, x1⟩
  have X1 := hide (X0.out.trans x1)
  clear x1 BF
  go_wp2
  go_ret
  exact ⟨rfl, X1.out⟩
end Go.Proofs.YtegoapdbpfhkiaaGreat

/- Rows of items that may share their inner memory: reading, and one item put in. -/
namespace Go.Proofs.YtegoapdbpfhkiaaGreat
open Go.RowKit Go.Sort
set_option linter.unusedVariables false

theorem LR.none_ {α : Type} {K : Kd α} (w : World) (B : Nat) : LR K w B none 0 [] := ⟨Nat.le_refl _, by decide, fun k x h => by simp at h⟩

/-- A source of cells: m elements that read as news. -/
def SrcF (w : World) (B : Nat) (X : Option Addr) (m : Nat) (news : List Value) : Prop :=
  m = 0 ∨ ∃ b off, X = some ⟨b, off, none⟩ ∧ b < B ∧ ∀ j u, news[j]? = some u → w.cell? ⟨b, off + j, none⟩ = some u
/-- The same as an append asks for it. -/
def SrcE (w : World) (X : Option Addr) (m : Nat) (news : List Value) : Prop :=
  m = 0 ∨ ∃ b off, X = some ⟨b, off, none⟩ ∧ ∀ j u, news[j]? = some u → w.cell? ⟨b, off + j, none⟩ = some u
theorem SrcF.ext {w w' : World} {B m : Nat} {X : Option Addr} {news : List Value} (h : SrcF w B X m news) (k : Ext w w') (hB : B ≤ w.heap.size) : SrcE w' X m news := by
  rcases h with h | ⟨b, off, e, hb, hc⟩
  · exact .inl h
  · exact .inr ⟨b, off, e, fun j u hu => (k.cell (by show b < _; omega)).trans (hc j u hu)⟩
theorem src_one {w : World} {b : Nat} {x0 x1 x2 : Value} {T : TypeId} (h : Blk w b #[x0, x1, x2] T) : SrcE w (some ⟨b, 0, none⟩) 1 [x0, x1, x2] :=
  .inr ⟨b, 0, rfl, fun j u hu => by rw [Nat.zero_add, h.cell]; simpa using hu⟩
theorem row_empty {w : World} {lo H s : Nat} {T : TypeId} (hb : Blk w H #[] T) (hlo : lo ≤ H) : w.ownsRow lo T s (.slice (some ⟨H, 0, none⟩) 0 0) 0 [] :=
  ⟨by simp, .inr ⟨H, 0, #[], rfl, hlo, hb, Nat.le_refl _, by unfold maxLen; omega, by simp, by simp⟩⟩
/-- What an append onto a row behind u leaves of u. -/
theorem Ext.apdF {u w w' : World} {e : TypeId} {s n c lo : Nat} {A : Option Addr} {vs : List Value} (h : Ext u w) (ho : w.ownsRow lo e s (.slice A n c) n vs) (hl : u.heap.size ≤ lo) (hg : w.grownBy w' (A.map (·.block))) : Ext u w' :=
  h.tchF (TchF.of_grown (fp := (A.map (·.block)).toList) hg (fun p hp => by subst hp; simp)) (fun i hi => by
    obtain ⟨q, rfl, rfl⟩ := mem_of_opt hi
    have := (ho.lt q.block rfl).1
    omega)

theorem Blk.apdF {w w' : World} {g : Nat} {A : Option Addr} {cs : Array Value} {t : TypeId} (hb : Blk w g cs t) (hg : w.grownBy w' (A.map (·.block))) (hne : ∀ p, A = some p → p.block ≠ g) : Blk w' g cs t :=
  hb.tchF (TchF.of_grown (fp := (A.map (·.block)).toList) hg (fun p hp => by subst hp; simp)) (fun hm => by
    obtain ⟨q, rfl, h⟩ := mem_of_opt hm
    exact hne q rfl h)
theorem one_item (A1 A2 : Option Addr) (m1 m2 c1 c2 : Nat) (m3 : Bool) : ∀ u ∈ [Value.slice A1 m1 c1, .slice A2 m2 c2, .bool m3], u.oneCell' = true := by
  intro u hu
  simp only [List.mem_cons, List.not_mem_nil, or_false] at hu
  rcases hu with rfl | rfl | rfl <;> rfl

def RowS (w : World) (lo : Nat) (A : Option Addr) (c : Nat) (css : List (List Value)) (out : List ItD) : Prop :=
  w.ownsRow lo 51 3 (.slice A css.length c) css.length css.flatten ∧ css.length = out.length ∧ ∀ (k : Nat) (cs : List Value) (x : ItD), css[k]? = some cs → out[k]? = some x → kdItem.rd w w.heap.size cs x
theorem RowS.none_ (w : World) : RowS w 0 none 0 [] [] := ⟨⟨by simp, .inl ⟨rfl, rfl⟩⟩, rfl, fun k cs x h => by simp at h⟩
section
variable {w w' : World} {lo c : Nat} {A : Option Addr} {css : List (List Value)} {out : List ItD}
theorem RowS.len3 (h : RowS w lo A c css out) : ∀ cs ∈ css, cs.length = 3 := by
  intro cs hcs
  obtain ⟨k, hk, rfl⟩ := List.getElem_of_mem hcs
  have hko : k < out.length := by have := h.2.1; omega
  exact kdItem.rd_len (h.2.2 k _ out[k] (List.getElem?_eq_getElem hk) (List.getElem?_eq_getElem (by have := h.2.1; omega)))
theorem RowS.one (h : RowS w lo A c css out) : ∀ u ∈ css.flatten, u.oneCell' = true := by
  intro u hu
  obtain ⟨cs, hcs, hu⟩ := List.mem_flatten.1 hu
  obtain ⟨k, hk, rfl⟩ := List.getElem_of_mem hcs
  have hko : k < out.length := by have := h.2.1; omega
  exact kdItem.rd_one (h.2.2 k _ out[k] (List.getElem?_eq_getElem hk) (List.getElem?_eq_getElem (by have := h.2.1; omega))) u hu
theorem flat3 : ∀ {css : List (List Value)}, (∀ cs ∈ css, cs.length = 3) → css.flatten.length = css.length * 3
  | [], _ => rfl
  | c :: t, h => by
    rw [List.flatten_cons, List.length_append, h c (by simp), flat3 (fun x hx => h x (by simp [hx])), List.length_cons]
    omega
theorem RowS.pos (h : RowS w lo A c css out) (hn : 0 < out.length) : ∃ g, A = some ⟨g, 0, none⟩ ∧ lo ≤ g ∧ g < w.heap.size := by
  rcases h.1.2 with ⟨_, h2⟩ | ⟨g, cap, cur, h1, h2, h3, _⟩
  · have := h.2.1; omega
  · simp only [Value.slice.injEq] at h1
    obtain ⟨rfl, _, _⟩ := h1
    refine ⟨g, rfl, h2, ?_⟩
    rcases Nat.lt_or_ge g w.heap.size with hlt | hge
    · exact hlt
    · rw [Array.getElem?_eq_none hge] at h3; cases h3
theorem RowS.cap (h : RowS w lo A c css out) : out.length ≤ c ∧ c ≤ 9223372036854775807 := by
  have e := h.2.1
  rcases h.1.2 with ⟨h1, h2⟩ | ⟨g, cap, cur, h1, h2, h3, h4, h5, _⟩
  · simp only [Value.slice.injEq] at h1
    omega
  · simp only [Value.slice.injEq] at h1
    unfold maxLen at h5
    omega
theorem RowS.cells (h : RowS w lo A c css out) {g : Nat} (hA : A = some ⟨g, 0, none⟩) : ∀ j u, css.flatten[j]? = some u → w.cell? ⟨g, j, none⟩ = some u := by
  intro j u hu
  subst hA
  have hj := (List.getElem?_eq_some_iff.1 hu).1
  rw [flat3 h.len3] at hj
  rw [World.ownsRow.cellAt h.1 j hj, hu]
theorem RowS.lr (h : RowS w lo A c css out) : LR kdItem w w.heap.size A c out := by
  refine ⟨h.cap.1, h.cap.2, fun k x hx => ?_⟩
  have hk : k < out.length := (List.getElem?_eq_some_iff.1 hx).1
  have hkc : k < css.length := by have := h.2.1; omega
  obtain ⟨g, rfl, _, hg⟩ := h.pos (by omega)
  refine ⟨g, 0, css[k], rfl, hg, h.2.2 k _ x (List.getElem?_eq_getElem hkc) hx, fun j u hu => ?_⟩
  rw [Nat.zero_add]
  have hj : j < 3 := by have := (List.getElem?_eq_some_iff.1 hu).1; rwa [h.len3 _ (List.getElem_mem hkc)] at this
  refine h.cells rfl _ _ ?_
  show css.flatten[k * 3 + j]? = _
  rw [flatten_at h.len3 k j _ (List.getElem?_eq_getElem hkc) hj]
  exact hu
theorem RowS.ext (h : RowS w lo A c css out) (k : Ext w w') : RowS w' lo A c css out := by
  refine ⟨⟨h.1.1, ?_⟩, h.2.1, fun j cs x h1 h2 => kdItem.rd_more (kdItem.rd_ext (h.2.2 j cs x h1 h2) k (Nat.le_refl _)) k.size⟩
  rcases h.1.2 with hh | ⟨g, cap, cur, h1, h2, h3, r⟩
  · exact .inl hh
  · refine .inr ⟨g, cap, cur, h1, h2, ?_, r⟩
    have hg : g < w.heap.size := by
      rcases Nat.lt_or_ge g w.heap.size with hlt | hge
      · exact hlt
      · rw [Array.getElem?_eq_none hge] at h3; cases h3
    rw [k.block g hg, h3]
theorem RowS.split (css : List (List Value)) (p : Nat) : (css.take p).flatten ++ (css.drop p).flatten = css.flatten := by rw [← List.flatten_append, List.take_append_drop]
theorem RowS.takeLen (h : RowS w lo A c css out) {p : Nat} (hp : p ≤ out.length) : (css.take p).flatten.length = p * 3 := by
  rw [flat3 (fun x hx => h.len3 x (List.mem_of_mem_take hx)), List.length_take, Nat.min_eq_left (by have := h.2.1; omega)]
theorem RowS.dropLen (h : RowS w lo A c css out) (p : Nat) : (css.drop p).flatten.length = (out.length - p) * 3 := by
  rw [flat3 (fun x hx => h.len3 x (List.mem_of_mem_drop hx)), List.length_drop, h.2.1]
theorem RowS.take (h : RowS w lo A c css out) {p : Nat} (hp : p ≤ out.length) : SrcF w w.heap.size A p (css.take p).flatten := by
  rcases Nat.eq_zero_or_pos p with h0 | h0
  · exact .inl h0
  obtain ⟨g, rfl, _, hg⟩ := h.pos (by omega)
  refine .inr ⟨g, 0, rfl, hg, fun j u hu => ?_⟩
  rw [Nat.zero_add]
  refine h.cells rfl j u ?_
  rw [← RowS.split css p, List.getElem?_append_left (List.getElem?_eq_some_iff.1 hu).1]
  exact hu
theorem RowS.drop (h : RowS w lo A c css out) {p : Nat} (hp : p ≤ out.length) {X : Option Addr} (hX : p < out.length → ∀ g, A = some ⟨g, 0, none⟩ → X = some ⟨g, p * 3, none⟩) : SrcF w w.heap.size X (out.length - p) (css.drop p).flatten := by
  rcases Nat.eq_zero_or_pos (out.length - p) with h0 | h0
  · exact .inl h0
  obtain ⟨g, rfl, _, hg⟩ := h.pos (by omega)
  refine .inr ⟨g, p * 3, hX (by omega) g rfl, hg, fun j u hu => ?_⟩
  refine h.cells rfl _ u ?_
  rw [← RowS.split css p, List.getElem?_append_right (by rw [h.takeLen hp]; omega), h.takeLen hp, show p * 3 + j - p * 3 = j by omega]
  exact hu
theorem RowS.ins (h : RowS w lo A c css out) {xc : List Value} {x : ItD} {p m lo' c' : Nat} {A' : Option Addr} (hx : kdItem.rd w w.heap.size xc x) (hp : p ≤ out.length) (hr : w'.ownsRow lo' 51 3 (.slice A' m c') m (((css.take p).flatten ++ xc) ++ (css.drop p).flatten)) (hm : m = out.length + 1) (k : Ext w w') : RowS w' 0 A' c' (insAt css xc p) (insAt out x p) := by
  have hl : (insAt css xc p).length = m := by rw [insAt_len, hm, h.2.1]
  have hf : (insAt css xc p).flatten = ((css.take p).flatten ++ xc) ++ (css.drop p).flatten := by
    unfold insAt
    rw [List.flatten_append, List.flatten_cons, List.append_assoc]
  refine ⟨by rw [hl, hf]; exact ⟨hr.1, hr.2.imp id (fun ⟨g, cap, cur, h1, _, r⟩ => ⟨g, cap, cur, h1, Nat.zero_le _, r⟩)⟩, by rw [hl, insAt_len, hm], fun j cs y h1 h2 => kdItem.rd_more (kdItem.rd_ext ?_ k (Nat.le_refl _)) k.size⟩
  have e1 : (css.take p).length = p := by rw [List.length_take, Nat.min_eq_left (by have := h.2.1; omega)]
  have e2 : (out.take p).length = p := by rw [List.length_take, Nat.min_eq_left hp]
  unfold insAt at h1 h2
  rcases Nat.lt_trichotomy j p with hlt | rfl | hgt
  · rw [List.getElem?_append_left (by omega)] at h1 h2
    rw [List.getElem?_take_of_lt hlt] at h1 h2
    exact h.2.2 j cs y h1 h2
  · rw [List.getElem?_append_right (by omega)] at h1 h2
    rw [e1, Nat.sub_self] at h1
    rw [e2, Nat.sub_self] at h2
    simp only [List.getElem?_cons_zero, Option.some.injEq] at h1 h2
    subst h1 h2
    exact hx
  · obtain ⟨q, rfl⟩ : ∃ q, j = p + 1 + q := ⟨j - (p + 1), by omega⟩
    rw [List.getElem?_append_right (by omega)] at h1 h2
    rw [e1, show p + 1 + q - p = q + 1 by omega, List.getElem?_cons_succ, List.getElem?_drop] at h1
    rw [e2, show p + 1 + q - p = q + 1 by omega, List.getElem?_cons_succ, List.getElem?_drop] at h2
    exact h.2.2 (p + q) cs y h1 h2
end
theorem step_append_flat0 {P : Program} {t e : TypeId} {size bytes : Nat} {z : Value} {w : World} {lo c m d : Nat} {A X : Option Addr} {news : List Value} {ops : Array Oper} {o : Oper} {a : Act} {KK : Act → World → Prop} {Q : Exit → Act → World → Prop} {G : Prop} (hgd : o.guard = none) (s x : Operand)
    (ho : o.op = .call { callee := .builtin .append, args := #[s, x], argTypes := #[t, t] }) (E : ElemN P t e size bytes z) (hs0 : 0 < size)
    (hs' : a.eval s = .slice A 0 c) (hx' : a.eval x = .slice X m d) (h : w.ownsRow lo e size (.slice A 0 c) 0 []) (hl : news.length = m * size) (hX : SrcE w X m news) (h1 : ∀ u ∈ news, u.oneCell' = true) (hb : m * bytes ≤ 140737488355328) (hm : m ≤ 4611686018427387904) (hlo : lo ≤ w.heap.size)
    (hK : ∀ A' c' w', w'.ownsRow lo e size (.slice A' m c') m news → w.grownBy w' (A.map (·.block)) → (A'.map (·.block) = A.map (·.block) ∨ A'.map (·.block) = some w.heap.size) → KK (a.put o.dst (.slice A' m c')) w') :
    if Region.wanted o (yielded ops a.tmps) = true then Oper.wp P o a w KK Q else G := by
  refine step_append_flat hgd s x ho E hs0 hs' hx' h hl hX h1 (by rw [Nat.zero_add]; exact hb) (by rw [Nat.zero_add]; exact hm) hlo (fun A' c' w' h2 h3 h4 => ?_)
  rw [Nat.zero_add] at h2 ⊢
  exact hK A' c' w' h2 h3 h4
theorem bdsP {p k : Nat} (hp : p ≤ k) (hk : k ≤ 14) : p * 56 ≤ 140737488355328 ∧ p ≤ 4611686018427387904 ∧ (p + 1) * 56 ≤ 140737488355328 ∧ p + 1 ≤ 4611686018427387904 ∧ (p + 1 + (k - p)) * 56 ≤ 140737488355328 ∧ p + 1 + (k - p) ≤ 4611686018427387904 := by
  refine ⟨?_, ?_, ?_, ?_, ?_, ?_⟩ <;> omega
end Go.Proofs.YtegoapdbpfhkiaaGreat

/- The reference's order. -/
namespace Go.Proofs.YtegoapdbpfhkiaaGreat
open Go.RowKit Go.Sort
set_option linter.unusedVariables false

set_option maxRecDepth 100000 in
set_option maxHeartbeats 8000000 in
theorem s.pnOrder_m (w : World) (v : Value) (d : CoD) (A : Option Addr) (c B : Nat) (xs : List ItD) (h : kC.rd w v d) (hok : kC.ok d) (hd : CodeOk d) (hi : LR kdItem w B A c xs) (hB : B ≤ w.heap.size) (hb : itemsB xs = true) (hit : ∀ x ∈ xs, ItOk d x) :
    Calls Tryz.prog 59 #[v, .slice A xs.length c] w fun e w' => ∃ A' c' fp, e = .returned (.slice A' xs.length c') ∧ LO kdItem 51 w' A' c' (orderL d xs) fp ∧ (∀ i ∈ fp, w.heap.size ≤ i) ∧ Ext w w' := by
  obtain ⟨Ac, nc, cc, Al, nl, cl, rr, b, p, f, rfl⟩ := kC.shape h
  have HR := hide h
  have H := hide hi
  have a1 := hi.1; have a2 := hi.2.1
  have h14 := (itsWt hb).1
  have IT := hide hit
  have ML := hide (fun (wq : World) (A9 : Option Addr) (c9 : Nat) (h9 : LR kdItem wq wq.heap.size A9 c9 (sortS (ltE d) xs)) => s.pgLate_m wq A9 c9 wq.heap.size _ h9 (Nat.le_refl _) (itemsB_wt1 (itemsB_sub hb (sortS_len _ _) (fun y hy => by
    simp only [itemsB, Bool.and_eq_true, List.all_eq_true] at hb
    exact hb.1 y (sortS_mem _ hy)))))
  have PF := hide (fun (wq : World) (xq : Ext w wq) (vs : List Value) (x : ItD) (hx : kdItem.rd wq wq.heap.size vs x) (ix : ItOk d x) => s.pnFull_m wq _ d vs x (kC.rd_ext HR.out xq) hok hd hx ix)
  have SLN := hide (fun k => sortS_len (ltE d) (xs.take k))
  have OE := hide (orderL_E d xs)
  have SL : Hid ((sortS (ltE d) xs).length = xs.length) := sortS_len _ _
  rw [SL.out, OE.out] at ML
  have SX := hide (fun (k : Nat) (x : ItD) (hx : xs[k]? = some x) => sortE_succ d hx)
  have SM := hide (fun (k : Nat) (y : ItD) (hy : y ∈ sortS (ltE d) (xs.take k)) => hit y (List.mem_of_mem_take (sortS_mem _ hy)))
  have BD := hide (fun (x : ItD) (ix : ItOk d x) => fullF_bd hd (earlyD x) (itOk_early ix).n3)
  clear h hi hb hit hd hok
  obtain ⟨n, hn⟩ : ∃ n, Hid (xs.length = n) := ⟨_, rfl⟩
  rw [hn.out] at a1 h14 ML ⊢
  obtain ⟨W0, hW0⟩ : ∃ W0, Hid (W0 = w.alloc (.cells #[.slice Ac nc cc, .slice Al nl cl, .int .i64 rr, .int .i64 b, .int .i64 p, .int .i64 f] 26)) := ⟨_, rfl⟩
  have X0 : Hid (Ext w W0) := by rw [hW0.out]; exact Ext.alloc w _
  have B0 : Hid (Blk W0 w.heap.size #[.slice Ac nc cc, .slice Al nl cl, .int .i64 rr, .int .i64 b, .int .i64 p, .int .i64 f] 26) := by rw [hW0.out]; exact Blk.new rfl _ _
  go_enter Tryz.func59, Tryz.ntmps59
  go_wp2
  rw [← hW0.out]
  clear hW0
  go_loopw [5, 11] (fun o i0 wr => ∃ (k : Nat) (A5 : Option Addr) (c5 : Nat) (css : List (List Value)), k ≤ n ∧ i0 = .int .i64 k ∧ o = .slice A5 k c5 ∧ RowS wr 0 A5 c5 css (sortS (ltE d) (xs.take k)) ∧ Ext W0 wr) (fun _ i0 _ => n - (intOf i0).toNat)
  case atStart => exact ⟨0, none, 0, [], Nat.zero_le _, rfl, rfl, RowS.none_ _, Ext.refl _⟩
  case round =>
    obtain ⟨k, A5, c5, css, hk, rfl, rfl, hlo, hx⟩ := hrel
    have LO5 := hide hlo
    have HX := hide hx
    have ol := SLN.out k
    have oc1 := hlo.cap.1; have oc2 := hlo.cap.2
    rw [List.length_take, hn.out, Nat.min_eq_left hk] at ol
    rw [ol] at oc1
    have OLN := hide ol
    clear hlo hx ol
    by_cases hlt : k < n
    · obtain ⟨x, hxk⟩ : ∃ x, Hid (xs[k]? = some x) := get_exP xs k (by rw [hn.out]; exact hlt)
      have ix := IT.out x (List.mem_of_getElem? hxk.out)
      have bdx := BD.out x ix
      have SXK := hide (SX.out k x hxk.out)
      have SMK := hide (SM.out k)
      obtain ⟨out, hout⟩ : ∃ out, Hid (sortS (ltE d) (xs.take k) = out) := ⟨_, rfl⟩
      rw [hout.out] at LO5 SXK SMK OLN
      obtain ⟨bb, off, A1, c1, A2, c2, rfl, hbb, q0, q1, q2, r1, r2⟩ := (H.out.ext (X0.out.trans HX.out) hB).item k x hxk.out
      have sz := (X0.out.trans HX.out).size
      obtain ⟨W1, hW1⟩ : ∃ W1, Hid (W1 = wr.alloc (.cells #[.slice A1 x.1.length c1, .slice A2 x.2.1.length c2, .bool x.2.2] 51)) := ⟨_, rfl⟩
      have Y1 : Hid (Ext wr W1) := by rw [hW1.out]; exact Ext.alloc _ _
      have X1 : Hid (Ext W0 W1) := HX.out.trans Y1.out
      have B1 : Hid (Blk W1 wr.heap.size #[.slice A1 x.1.length c1, .slice A2 x.2.1.length c2, .bool x.2.2] 51) := by rw [hW1.out]; exact Blk.new rfl _ _
      have MK := hide (kdItem.rd_more (kdItem.mk_ (r1.ext Y1.out (by omega)) (r2.ext Y1.out (by omega))) (Nat.le_trans hB (X0.out.trans X1.out).size))
      have b1 := r1.1; have b2 := r1.2.1; have b3 := r2.1; have b4 := r2.2.1
      have PX := hide (fun (wq : World) (xq : Ext W1 wq) => PF.out wq ((X0.out.trans X1.out).trans xq) _ x (kdItem.rd_more (kdItem.rd_ext MK.out xq (Nat.le_refl _)) xq.size) ix)
      rw [kdItem.val3] at PX
      have L1 := hide (LO5.out.ext Y1.out)
      have wlt : wr.heap.size < W1.heap.size := B1.out.lt
      obtain ⟨fx, hfx⟩ : ∃ fx, Hid (fullF d (earlyD x) = fx) := ⟨_, rfl⟩
      rw [hfx.out] at PX bdx
      clear r1 r2 ix
      generalize x.1.length = m1 at *
      generalize x.2.1.length = m2 at *
      generalize x.2.2 = m3 at *
      go_wp2
      rw [← hW1.out]
      clear hW1 q0 q1 q2
      generalize wr.heap.size = g1 at *
      go_loopw [8] (fun q wq => ∃ (j : Nat), j ≤ k ∧ q = .int .i64 j ∧ Hid (posS (ltE d) out x j = posS (ltE d) out x k) ∧ Ext W1 wq) (fun q _ => (intOf q).toNat)
      case atStart => exact ⟨k, Nat.le_refl _, rfl, rfl, Ext.refl _⟩
      case round =>
        obtain ⟨j, hjk, rfl, HP, hxq⟩ := hrel
        have XQ := hide hxq
        clear hxq
        by_cases hj0 : 0 < j
        · obtain ⟨jp, rfl⟩ : ∃ jp, j = jp + 1 := ⟨j - 1, by omega⟩
          obtain ⟨y, hy⟩ : ∃ y, Hid (out[jp]? = some y) := get_exP out jp (by rw [OLN.out]; omega)
          have iy := SMK.out y (List.mem_of_getElem? hy.out)
          have bdy := BD.out y iy
          obtain ⟨g, rfl, -, -⟩ := L1.out.pos (by rw [OLN.out]; omega)
          obtain ⟨bb2, off2, D1, e1, D2, e2, eA, hbb2, p0, p1, p2, r1, r2⟩ := (L1.out.ext XQ.out).lr.item jp y hy.out
          simp only [Option.some.injEq, Addr.mk.injEq, and_true] at eA
          obtain ⟨rfl, rfl⟩ := eA
          have MY := hide (kdItem.mk_ r1 r2)
          have FX := hide (fun dd os => ext_regrown (PX.out (grow (redrawn wr dd) os) (XQ.out.trans (ext_re wr dd os))))
          have FY := hide (fun dd os => ext_regrown (PF.out (grow (redrawn wr dd) os) (((X0.out.trans X1.out).trans XQ.out).trans (ext_re wr dd os)) _ y (kdItem.rd_more (kdItem.rd_ext MY.out (ext_re wr dd os) (Nat.le_refl _)) (ext_re wr dd os).size) iy))
          rw [kdItem.val3] at FY
          have d1 := r1.1; have d2 := r1.2.1; have d3 := r2.1; have d4 := r2.2.1
          have HPS : Hid (posS (ltE d) out x (jp + 1) = if fx < fullF d (earlyD y) then posS (ltE d) out x jp else jp + 1) := by
            have ey : out.getD jp default = y := by rw [List.getD_eq_getElem?_getD, hy.out]; rfl
            show posS (ltE d) out x (jp + 1) = _
            conv => lhs; unfold posS
            rw [ey]
            have el : (ltE d x y = true) = (fx < fullF d (earlyD y)) := by unfold ltE; rw [hfx.out, decide_eq_true_eq]
            simp only [el]
          clear r1 r2 iy
          have e11 : y.1.length = y.1.length := rfl
          generalize fullF d (earlyD y) = fy at *
          generalize y.1.length = y1 at *
          generalize y.2.1.length = y2 at *
          generalize y.2.2 = y3 at *
          have c0_ := fun dd os => (B0.out.ext ((X1.out.trans XQ.out).trans (ext_re wr dd os))).cell
          have c1_ := fun dd os => (B1.out.ext (XQ.out.trans (ext_re wr dd os))).cell
          rw [Nat.zero_add] at p0 p1 p2
          have p0_ := fun dd os => cell_regrown p0 dd os
          have p1_ := fun dd os => cell_regrown p1 dd os
          have p2_ := fun dd os => cell_regrown p2 dd os
          have i2 : (jp : Int) < k := by omega
          have hwp : IntKind.i64.wrap (((jp + 1 : Nat) : Int) - 1) = (jp : Int) := by rw [IntWalk.i64_in _ (by omega)]; omega
          clear p0 p1 p2 e11
          go_wp2_with fail
          refine wp_region_quiet_below (by kernel_rfl) (by kernel_rfl) ?_
          repeat (go_big_quiet_step (first | with_reducible exact FX.out _ _ | with_reducible exact FY.out _ _))
          refine wpQuiet_nil ?_
          intro _ hw'
          obtain ⟨⟨dq, osq⟩, hw''⟩ := hw'
          subst hw''
          have Y5 := hide (ext_re wr dq osq)
          clear c0_ c1_ p0_ p1_ p2_ FX FY
          generalize grow (redrawn wr dq) osq = w5 at *
          by_cases hl : fx < fy
          · have HN : Hid (posS (ltE d) out x jp = posS (ltE d) out x k) := by
              show _ = _
              rw [← HP.out, HPS.out, if_pos hl]
            clear HPS HP
            go_wp2
            go_roundw
            case rel => exact ⟨jp, by omega, by go_num, HN, XQ.out.trans Y5.out⟩
            case measure => simp [intOf]
          · have HK : Hid (posS (ltE d) out x k = jp + 1) := by
              show _ = _
              rw [← HP.out, HPS.out, if_neg hl]
            clear HPS HP
            have q1 : (jp : Int) + 1 ≤ k := by omega
            have q2 : (jp : Int) + 1 ≤ c5 := by omega
            have q0 : 0 ≤ (jp : Int) + 1 := by omega
            by_cases hcc : c5 = jp + 1
            · subst hcc
              have XE : Hid (Ext W1 w5) := XQ.out.trans Y5.out
              have L5 := hide (L1.out.ext XE.out)
              have B5 := hide (B1.out.ext XE.out)
              have D5 := hide (B5.out.ext (Ext.drew w5))
              have g1l : g1 < w5.heap.size := B5.out.lt
              have ST : Hid (SrcF w5 w5.heap.size (some ⟨g, 0, none⟩) (jp + 1) (css.take (jp + 1)).flatten) := L5.out.take (by have := OLN.out; omega)
              have SD : Hid (SrcF w5 w5.heap.size (some ⟨g, 0, none⟩) (k - (jp + 1)) (css.drop (jp + 1)).flatten) := by
                show SrcF _ _ _ _ _
                rw [← OLN.out]
                exact .inl (by have := OLN.out; omega)
              have T1 : Hid ((css.take (jp + 1)).flatten.length = (jp + 1) * 3) := L5.out.takeLen (by have := OLN.out; omega)
              have T2 : Hid ((css.drop (jp + 1)).flatten.length = (k - (jp + 1)) * 3) := by
                show _ = _
                rw [← OLN.out]
                exact L5.out.dropLen (jp + 1)
              have SPL := RowS.split css (jp + 1)
              have O1 : Hid (∀ u ∈ (css.take (jp + 1)).flatten, u.oneCell' = true) := fun u hu => L5.out.one u (by rw [← SPL]; exact List.mem_append_left _ hu)
              have O2 : Hid (∀ u ∈ (css.drop (jp + 1)).flatten, u.oneCell' = true) := fun u hu => L5.out.one u (by rw [← SPL]; exact List.mem_append_right _ hu)
              have INS := hide (fun (w9 : World) (A9 : Option Addr) (c9 m : Nat) (hr : w9.ownsRow w5.heap.size 51 3 (.slice A9 m c9) m (((css.take (jp + 1)).flatten ++ [.slice A1 m1 c1, .slice A2 m2 c2, .bool m3]) ++ (css.drop (jp + 1)).flatten)) (hm : m = out.length + 1) (k9 : Ext w5 w9) => L5.out.ins (kdItem.rd_more (kdItem.rd_ext MK.out XE.out (Nat.le_refl _)) XE.out.size) (by have := OLN.out; omega) hr hm k9)
              have EI : Hid (insAt out x (jp + 1) = sortS (ltE d) (xs.take (k + 1))) := by
                show _ = _
                rw [SXK.out]
                unfold insS
                rw [OLN.out, HK.out]
              rw [EI.out, OLN.out] at INS
              obtain ⟨b5, b6, b7, b8, b9, b10⟩ := bdsP (p := (jp + 1)) hjk (Nat.le_trans hk h14)
              rw [show k - (jp + 1) = 0 by omega] at SD T2 b9 b10
              generalize insAt css [.slice A1 m1 c1, .slice A2 m2 c2, .bool m3] (jp + 1) = css' at *
              generalize (css.take (jp + 1)).flatten = t1 at *
              generalize (css.drop (jp + 1)).flatten = t2 at *
              have YA : Hid (Ext w5 ((w5.alloc (.cells #[] 51)).drew)) := (Ext.alloc _ _).trans (Ext.drew _)
              have YB : Hid (Ext w5 (((w5.alloc (.cells #[] 51)).alloc (.cells #[.slice A1 m1 c1, .slice A2 m2 c2, .bool m3] 51)).drew)) := ((Ext.alloc _ _).trans (Ext.alloc _ _)).trans (Ext.drew _)
              have YC : Hid (Ext w5 (((w5.alloc (.cells #[.slice A1 m1 c1, .slice A2 m2 c2, .bool m3] 51)).alloc (.cells #[] 51)).drew)) := ((Ext.alloc _ _).trans (Ext.alloc _ _)).trans (Ext.drew _)
              have RA : Hid (World.ownsRow ((w5.alloc (.cells #[] 51)).drew) w5.heap.size 51 3 (.slice (some ⟨w5.heap.size, 0, none⟩) 0 0) 0 []) := row_empty ((Blk.new rfl #[] 51).ext (Ext.drew _)) (Nat.le_refl _)
              have RB : Hid (World.ownsRow (((w5.alloc (.cells #[] 51)).alloc (.cells #[.slice A1 m1 c1, .slice A2 m2 c2, .bool m3] 51)).drew) w5.heap.size 51 3 (.slice (some ⟨w5.heap.size, 0, none⟩) 0 0) 0 []) := row_empty (((Blk.new rfl #[] 51).alloc _).ext (Ext.drew _)) (Nat.le_refl _)
              have RC : Hid (World.ownsRow (((w5.alloc (.cells #[.slice A1 m1 c1, .slice A2 m2 c2, .bool m3] 51)).alloc (.cells #[] 51)).drew) w5.heap.size 51 3 (.slice (some ⟨w5.heap.size + 1, 0, none⟩) 0 0) 0 []) := row_empty ((Blk.new (w := w5.alloc (.cells #[.slice A1 m1 c1, .slice A2 m2 c2, .bool m3] 51)) (by simp) #[] 51).ext (Ext.drew _)) (Nat.le_succ _)
              have LB : Hid (Blk (((w5.alloc (.cells #[] 51)).alloc (.cells #[.slice A1 m1 c1, .slice A2 m2 c2, .bool m3] 51)).drew) (w5.heap.size + 1) #[.slice A1 m1 c1, .slice A2 m2 c2, .bool m3] 51) := (Blk.new (w := w5.alloc (.cells #[] 51)) (by simp) #[.slice A1 m1 c1, .slice A2 m2 c2, .bool m3] 51).ext (Ext.drew _)
              have LC : Hid (Blk (((w5.alloc (.cells #[.slice A1 m1 c1, .slice A2 m2 c2, .bool m3] 51)).alloc (.cells #[] 51)).drew) w5.heap.size #[.slice A1 m1 c1, .slice A2 m2 c2, .bool m3] 51) := ((Blk.new (w := w5) rfl #[.slice A1 m1 c1, .slice A2 m2 c2, .bool m3] 51).alloc _).ext (Ext.drew _)
              have SA := hide (ST.out.ext YA.out (Nat.le_refl _))
              have SB := hide (ST.out.ext YB.out (Nat.le_refl _))
              have SC := hide (ST.out.ext YC.out (Nat.le_refl _))
              have zA := YA.out.size; have zB := YB.out.size; have zC := YC.out.size
              clear SPL EI HK
              go_wp2_with fail
              go_region_held3 (fun w' => ∀ i, w'.cell? ⟨g1, i, none⟩ = #[.slice A1 m1 c1, .slice A2 m2 c2, .bool m3][i]?)
                (first | with_reducible exact D5.out.cell | with_reducible exact (D5.out.alloc _).cell | with_reducible exact ((D5.out.alloc _).alloc _).cell | with_reducible exact B10.out.cell | with_reducible exact B9.out.cell | with_reducible exact (B8.out.alloc _).cell | with_reducible exact B8.out.cell | with_reducible exact B5.out.cell | with_reducible exact (B5.out.alloc _).cell | with_reducible exact ((B5.out.alloc _).alloc _).cell | with_reducible exact ((B5.out.alloc _).ext (Ext.drew _)).cell | with_reducible exact (((B5.out.alloc _).alloc _).ext (Ext.drew _)).cell)
                (first
                | (refine step_append_flat0 (w := (w5.alloc (.cells #[] 51)).drew) (by rfl) (.tmp 34) (.tmp 37) (by rfl) elemN_item (by decide) (by rfl) (by rfl) RA.out T1.out SA.out O1.out b5 b6 zA ?_; intro A8 c8 w8 o8 g8 p8; have E8 : Hid (Ext w5 w8) := Ext.apdF YA.out RA.out (Nat.le_refl _) g8; have O8 := hide o8; have B8 := hide (B5.out.ext E8.out); have z8 := E8.out.size; have E8a : Hid (Ext w5 (w8.alloc (.cells #[.slice A1 m1 c1, .slice A2 m2 c2, .bool m3] 51))) := E8.out.trans (Ext.alloc _ _); have O8a := hide (World.ownsRow.alloc o8 (.cells #[.slice A1 m1 c1, .slice A2 m2 c2, .bool m3] 51)); have L8a := hide (src_one (Blk.new (w := w8) rfl #[.slice A1 m1 c1, .slice A2 m2 c2, .bool m3] 51)); have z8a := E8a.out.size; clear o8 g8 p8)
                | (refine step_append_flat0 (w := ((w5.alloc (.cells #[] 51)).alloc (.cells #[.slice A1 m1 c1, .slice A2 m2 c2, .bool m3] 51)).drew) (by rfl) (.tmp 34) (.tmp 37) (by rfl) elemN_item (by decide) (by rfl) (by rfl) RB.out T1.out SB.out O1.out b5 b6 zB ?_; intro A8 c8 w8 o8 g8 p8; have E8 : Hid (Ext w5 w8) := Ext.apdF YB.out RB.out (Nat.le_refl _) g8; have O8 := hide o8; have B8 := hide (B5.out.ext E8.out); have z8 := E8.out.size; have E8a : Hid (Ext w5 (w8.alloc (.cells #[.slice A1 m1 c1, .slice A2 m2 c2, .bool m3] 51))) := E8.out.trans (Ext.alloc _ _); have O8a := hide (World.ownsRow.alloc o8 (.cells #[.slice A1 m1 c1, .slice A2 m2 c2, .bool m3] 51)); have L8a := hide (src_one (Blk.new (w := w8) rfl #[.slice A1 m1 c1, .slice A2 m2 c2, .bool m3] 51)); have z8a := E8a.out.size; have LT := hide (Blk.apdF LB.out g8 (fun p hp => by cases hp; simp)); clear o8 g8 p8)
                | (refine step_append_flat0 (w := ((w5.alloc (.cells #[.slice A1 m1 c1, .slice A2 m2 c2, .bool m3] 51)).alloc (.cells #[] 51)).drew) (by rfl) (.tmp 34) (.tmp 37) (by rfl) elemN_item (by decide) (by rfl) (by rfl) RC.out T1.out SC.out O1.out b5 b6 zC ?_; intro A8 c8 w8 o8 g8 p8; have E8 : Hid (Ext w5 w8) := Ext.apdF YC.out RC.out (Nat.le_refl _) g8; have O8 := hide o8; have B8 := hide (B5.out.ext E8.out); have z8 := E8.out.size; have E8a : Hid (Ext w5 (w8.alloc (.cells #[.slice A1 m1 c1, .slice A2 m2 c2, .bool m3] 51))) := E8.out.trans (Ext.alloc _ _); have O8a := hide (World.ownsRow.alloc o8 (.cells #[.slice A1 m1 c1, .slice A2 m2 c2, .bool m3] 51)); have L8a := hide (src_one (Blk.new (w := w8) rfl #[.slice A1 m1 c1, .slice A2 m2 c2, .bool m3] 51)); have z8a := E8a.out.size; have LT := hide (Blk.apdF LC.out g8 (fun p hp => by cases hp; simp)); clear o8 g8 p8)
                | (refine step_append_flat (w := w8) (by rfl) (.tmp 38) (.tmp 40) (by rfl) elemN_item (by decide) (by rfl) (by rfl) O8.out (by rfl) (src_one LT.out) (one_item A1 A2 m1 m2 c1 c2 m3) b7 b8 z8 ?_; intro A9 c9 w9 o9 g9 p9; have E9 : Hid (Ext w5 w9) := Ext.apdF E8.out O8.out (Nat.le_refl _) g9; have O9 := hide o9; have B9 := hide (B5.out.ext E9.out); have S9 := hide (SD.out.ext E9.out (Nat.le_refl _)); have z9 := E9.out.size; clear o9 g9 p9)
                | (refine step_append_flat (w := w8.alloc (.cells #[.slice A1 m1 c1, .slice A2 m2 c2, .bool m3] 51)) (by rfl) (.tmp 38) (.tmp 40) (by rfl) elemN_item (by decide) (by rfl) (by rfl) O8a.out (by rfl) L8a.out (one_item A1 A2 m1 m2 c1 c2 m3) b7 b8 z8a ?_; intro A9 c9 w9 o9 g9 p9; have E9 : Hid (Ext w5 w9) := Ext.apdF E8a.out O8a.out (Nat.le_refl _) g9; have O9 := hide o9; have B9 := hide (B5.out.ext E9.out); have S9 := hide (SD.out.ext E9.out (Nat.le_refl _)); have z9 := E9.out.size; clear o9 g9 p9)
                | (refine step_append_flat (w := w9) (by rfl) (.tmp 41) (.tmp 44) (by rfl) elemN_item (by decide) (by rfl) (by rfl) O9.out T2.out S9.out O2.out b9 b10 z9 ?_; intro A10 c10 w10 o10 g10 p10; have E10 : Hid (Ext w5 w10) := Ext.apdF E9.out O9.out (Nat.le_refl _) g10; have O10 := hide o10; have B10 := hide (B5.out.ext E10.out); clear o10 g10 p10)
                | fail)
              all_goals
                go_wp2
                go_roundw
                case rel => exact ⟨k + 1, A10, c10, css', by omega, by go_num, congrArg (fun m => Value.slice A10 m c10) (by omega), INS.out w10 A10 c10 _ O10.out (by omega) E10.out, (X1.out.trans XE.out).trans E10.out⟩
                case measure => simp [intOf]; omega
            · -- neg
              have XE : Hid (Ext W1 w5) := XQ.out.trans Y5.out
              have L5 := hide (L1.out.ext XE.out)
              have B5 := hide (B1.out.ext XE.out)
              have D5 := hide (B5.out.ext (Ext.drew w5))
              have g1l : g1 < w5.heap.size := B5.out.lt
              have ST : Hid (SrcF w5 w5.heap.size (some ⟨g, 0, none⟩) (jp + 1) (css.take (jp + 1)).flatten) := L5.out.take (by have := OLN.out; omega)
              have SD : Hid (SrcF w5 w5.heap.size (some ⟨g, (jp + 1) * 3, none⟩) (k - (jp + 1)) (css.drop (jp + 1)).flatten) := by
                show SrcF _ _ _ _ _
                rw [← OLN.out]
                exact L5.out.drop (by have := OLN.out; omega) (fun _ g e => by simp only [Option.some.injEq, Addr.mk.injEq, and_true] at e; rw [e])
              have T1 : Hid ((css.take (jp + 1)).flatten.length = (jp + 1) * 3) := L5.out.takeLen (by have := OLN.out; omega)
              have T2 : Hid ((css.drop (jp + 1)).flatten.length = (k - (jp + 1)) * 3) := by
                show _ = _
                rw [← OLN.out]
                exact L5.out.dropLen (jp + 1)
              have SPL := RowS.split css (jp + 1)
              have O1 : Hid (∀ u ∈ (css.take (jp + 1)).flatten, u.oneCell' = true) := fun u hu => L5.out.one u (by rw [← SPL]; exact List.mem_append_left _ hu)
              have O2 : Hid (∀ u ∈ (css.drop (jp + 1)).flatten, u.oneCell' = true) := fun u hu => L5.out.one u (by rw [← SPL]; exact List.mem_append_right _ hu)
              have INS := hide (fun (w9 : World) (A9 : Option Addr) (c9 m : Nat) (hr : w9.ownsRow w5.heap.size 51 3 (.slice A9 m c9) m (((css.take (jp + 1)).flatten ++ [.slice A1 m1 c1, .slice A2 m2 c2, .bool m3]) ++ (css.drop (jp + 1)).flatten)) (hm : m = out.length + 1) (k9 : Ext w5 w9) => L5.out.ins (kdItem.rd_more (kdItem.rd_ext MK.out XE.out (Nat.le_refl _)) XE.out.size) (by have := OLN.out; omega) hr hm k9)
              have EI : Hid (insAt out x (jp + 1) = sortS (ltE d) (xs.take (k + 1))) := by
                show _ = _
                rw [SXK.out]
                unfold insS
                rw [OLN.out, HK.out]
              rw [EI.out, OLN.out] at INS
              obtain ⟨b5, b6, b7, b8, b9, b10⟩ := bdsP (p := (jp + 1)) hjk (Nat.le_trans hk h14)
              generalize insAt css [.slice A1 m1 c1, .slice A2 m2 c2, .bool m3] (jp + 1) = css' at *
              generalize (css.take (jp + 1)).flatten = t1 at *
              generalize (css.drop (jp + 1)).flatten = t2 at *
              have YA : Hid (Ext w5 ((w5.alloc (.cells #[] 51)).drew)) := (Ext.alloc _ _).trans (Ext.drew _)
              have YB : Hid (Ext w5 (((w5.alloc (.cells #[] 51)).alloc (.cells #[.slice A1 m1 c1, .slice A2 m2 c2, .bool m3] 51)).drew)) := ((Ext.alloc _ _).trans (Ext.alloc _ _)).trans (Ext.drew _)
              have YC : Hid (Ext w5 (((w5.alloc (.cells #[.slice A1 m1 c1, .slice A2 m2 c2, .bool m3] 51)).alloc (.cells #[] 51)).drew)) := ((Ext.alloc _ _).trans (Ext.alloc _ _)).trans (Ext.drew _)
              have RA : Hid (World.ownsRow ((w5.alloc (.cells #[] 51)).drew) w5.heap.size 51 3 (.slice (some ⟨w5.heap.size, 0, none⟩) 0 0) 0 []) := row_empty ((Blk.new rfl #[] 51).ext (Ext.drew _)) (Nat.le_refl _)
              have RB : Hid (World.ownsRow (((w5.alloc (.cells #[] 51)).alloc (.cells #[.slice A1 m1 c1, .slice A2 m2 c2, .bool m3] 51)).drew) w5.heap.size 51 3 (.slice (some ⟨w5.heap.size, 0, none⟩) 0 0) 0 []) := row_empty (((Blk.new rfl #[] 51).alloc _).ext (Ext.drew _)) (Nat.le_refl _)
              have RC : Hid (World.ownsRow (((w5.alloc (.cells #[.slice A1 m1 c1, .slice A2 m2 c2, .bool m3] 51)).alloc (.cells #[] 51)).drew) w5.heap.size 51 3 (.slice (some ⟨w5.heap.size + 1, 0, none⟩) 0 0) 0 []) := row_empty ((Blk.new (w := w5.alloc (.cells #[.slice A1 m1 c1, .slice A2 m2 c2, .bool m3] 51)) (by simp) #[] 51).ext (Ext.drew _)) (Nat.le_succ _)
              have LB : Hid (Blk (((w5.alloc (.cells #[] 51)).alloc (.cells #[.slice A1 m1 c1, .slice A2 m2 c2, .bool m3] 51)).drew) (w5.heap.size + 1) #[.slice A1 m1 c1, .slice A2 m2 c2, .bool m3] 51) := (Blk.new (w := w5.alloc (.cells #[] 51)) (by simp) #[.slice A1 m1 c1, .slice A2 m2 c2, .bool m3] 51).ext (Ext.drew _)
              have LC : Hid (Blk (((w5.alloc (.cells #[.slice A1 m1 c1, .slice A2 m2 c2, .bool m3] 51)).alloc (.cells #[] 51)).drew) w5.heap.size #[.slice A1 m1 c1, .slice A2 m2 c2, .bool m3] 51) := ((Blk.new (w := w5) rfl #[.slice A1 m1 c1, .slice A2 m2 c2, .bool m3] 51).alloc _).ext (Ext.drew _)
              have SA := hide (ST.out.ext YA.out (Nat.le_refl _))
              have SB := hide (ST.out.ext YB.out (Nat.le_refl _))
              have SC := hide (ST.out.ext YC.out (Nat.le_refl _))
              have zA := YA.out.size; have zB := YB.out.size; have zC := YC.out.size
              clear SPL EI HK
              go_wp2_with fail
              go_region_held3 (fun w' => ∀ i, w'.cell? ⟨g1, i, none⟩ = #[.slice A1 m1 c1, .slice A2 m2 c2, .bool m3][i]?)
                (first | with_reducible exact D5.out.cell | with_reducible exact (D5.out.alloc _).cell | with_reducible exact ((D5.out.alloc _).alloc _).cell | with_reducible exact B10.out.cell | with_reducible exact B9.out.cell | with_reducible exact (B8.out.alloc _).cell | with_reducible exact B8.out.cell | with_reducible exact B5.out.cell | with_reducible exact (B5.out.alloc _).cell | with_reducible exact ((B5.out.alloc _).alloc _).cell | with_reducible exact ((B5.out.alloc _).ext (Ext.drew _)).cell | with_reducible exact (((B5.out.alloc _).alloc _).ext (Ext.drew _)).cell)
                (first
                | (refine step_append_flat0 (w := (w5.alloc (.cells #[] 51)).drew) (by rfl) (.tmp 34) (.tmp 37) (by rfl) elemN_item (by decide) (by rfl) (by rfl) RA.out T1.out SA.out O1.out b5 b6 zA ?_; intro A8 c8 w8 o8 g8 p8; have E8 : Hid (Ext w5 w8) := Ext.apdF YA.out RA.out (Nat.le_refl _) g8; have O8 := hide o8; have B8 := hide (B5.out.ext E8.out); have z8 := E8.out.size; have E8a : Hid (Ext w5 (w8.alloc (.cells #[.slice A1 m1 c1, .slice A2 m2 c2, .bool m3] 51))) := E8.out.trans (Ext.alloc _ _); have O8a := hide (World.ownsRow.alloc o8 (.cells #[.slice A1 m1 c1, .slice A2 m2 c2, .bool m3] 51)); have L8a := hide (src_one (Blk.new (w := w8) rfl #[.slice A1 m1 c1, .slice A2 m2 c2, .bool m3] 51)); have z8a := E8a.out.size; clear o8 g8 p8)
                | (refine step_append_flat0 (w := ((w5.alloc (.cells #[] 51)).alloc (.cells #[.slice A1 m1 c1, .slice A2 m2 c2, .bool m3] 51)).drew) (by rfl) (.tmp 34) (.tmp 37) (by rfl) elemN_item (by decide) (by rfl) (by rfl) RB.out T1.out SB.out O1.out b5 b6 zB ?_; intro A8 c8 w8 o8 g8 p8; have E8 : Hid (Ext w5 w8) := Ext.apdF YB.out RB.out (Nat.le_refl _) g8; have O8 := hide o8; have B8 := hide (B5.out.ext E8.out); have z8 := E8.out.size; have E8a : Hid (Ext w5 (w8.alloc (.cells #[.slice A1 m1 c1, .slice A2 m2 c2, .bool m3] 51))) := E8.out.trans (Ext.alloc _ _); have O8a := hide (World.ownsRow.alloc o8 (.cells #[.slice A1 m1 c1, .slice A2 m2 c2, .bool m3] 51)); have L8a := hide (src_one (Blk.new (w := w8) rfl #[.slice A1 m1 c1, .slice A2 m2 c2, .bool m3] 51)); have z8a := E8a.out.size; have LT := hide (Blk.apdF LB.out g8 (fun p hp => by cases hp; simp)); clear o8 g8 p8)
                | (refine step_append_flat0 (w := ((w5.alloc (.cells #[.slice A1 m1 c1, .slice A2 m2 c2, .bool m3] 51)).alloc (.cells #[] 51)).drew) (by rfl) (.tmp 34) (.tmp 37) (by rfl) elemN_item (by decide) (by rfl) (by rfl) RC.out T1.out SC.out O1.out b5 b6 zC ?_; intro A8 c8 w8 o8 g8 p8; have E8 : Hid (Ext w5 w8) := Ext.apdF YC.out RC.out (Nat.le_refl _) g8; have O8 := hide o8; have B8 := hide (B5.out.ext E8.out); have z8 := E8.out.size; have E8a : Hid (Ext w5 (w8.alloc (.cells #[.slice A1 m1 c1, .slice A2 m2 c2, .bool m3] 51))) := E8.out.trans (Ext.alloc _ _); have O8a := hide (World.ownsRow.alloc o8 (.cells #[.slice A1 m1 c1, .slice A2 m2 c2, .bool m3] 51)); have L8a := hide (src_one (Blk.new (w := w8) rfl #[.slice A1 m1 c1, .slice A2 m2 c2, .bool m3] 51)); have z8a := E8a.out.size; have LT := hide (Blk.apdF LC.out g8 (fun p hp => by cases hp; simp)); clear o8 g8 p8)
                | (refine step_append_flat (w := w8) (by rfl) (.tmp 38) (.tmp 40) (by rfl) elemN_item (by decide) (by rfl) (by rfl) O8.out (by rfl) (src_one LT.out) (one_item A1 A2 m1 m2 c1 c2 m3) b7 b8 z8 ?_; intro A9 c9 w9 o9 g9 p9; have E9 : Hid (Ext w5 w9) := Ext.apdF E8.out O8.out (Nat.le_refl _) g9; have O9 := hide o9; have B9 := hide (B5.out.ext E9.out); have S9 := hide (SD.out.ext E9.out (Nat.le_refl _)); have z9 := E9.out.size; clear o9 g9 p9)
                | (refine step_append_flat (w := w8.alloc (.cells #[.slice A1 m1 c1, .slice A2 m2 c2, .bool m3] 51)) (by rfl) (.tmp 38) (.tmp 40) (by rfl) elemN_item (by decide) (by rfl) (by rfl) O8a.out (by rfl) L8a.out (one_item A1 A2 m1 m2 c1 c2 m3) b7 b8 z8a ?_; intro A9 c9 w9 o9 g9 p9; have E9 : Hid (Ext w5 w9) := Ext.apdF E8a.out O8a.out (Nat.le_refl _) g9; have O9 := hide o9; have B9 := hide (B5.out.ext E9.out); have S9 := hide (SD.out.ext E9.out (Nat.le_refl _)); have z9 := E9.out.size; clear o9 g9 p9)
                | (refine step_append_flat (w := w9) (by rfl) (.tmp 41) (.tmp 44) (by rfl) elemN_item (by decide) (by rfl) (by rfl) O9.out T2.out S9.out O2.out b9 b10 z9 ?_; intro A10 c10 w10 o10 g10 p10; have E10 : Hid (Ext w5 w10) := Ext.apdF E9.out O9.out (Nat.le_refl _) g10; have O10 := hide o10; have B10 := hide (B5.out.ext E10.out); clear o10 g10 p10)
                | fail)
              all_goals
                go_wp2
                go_roundw
                case rel => exact ⟨k + 1, A10, c10, css', by omega, by go_num, congrArg (fun m => Value.slice A10 m c10) (by omega), INS.out w10 A10 c10 _ O10.out (by omega) E10.out, (X1.out.trans XE.out).trans E10.out⟩
                case measure => simp [intOf]; omega
        · have ej : j = 0 := by omega
          subst ej
          go_wp2_with fail
          refine wp_region_quiet_below (by kernel_rfl) (by kernel_rfl) ?_
          repeat (go_big_quiet_step (fail))
          refine wpQuiet_nil ?_
          intro _ hw'
          obtain ⟨⟨dq, osq⟩, hw''⟩ := hw'
          subst hw''
          have Y5 := hide (ext_re wr dq osq)
          generalize grow (redrawn wr dq) osq = w5 at *
          have HK : Hid (posS (ltE d) out x k = 0) := HP.out.symm
          clear HP
          have XE : Hid (Ext W1 w5) := XQ.out.trans Y5.out
          have L5 := hide (L1.out.ext XE.out)
          have B5 := hide (B1.out.ext XE.out)
          have D5 := hide (B5.out.ext (Ext.drew w5))
          have g1l : g1 < w5.heap.size := B5.out.lt
          have ST : Hid (SrcF w5 w5.heap.size A5 0 (css.take 0).flatten) := L5.out.take (by have := OLN.out; omega)
          have SD : Hid (SrcF w5 w5.heap.size A5 (k - 0) (css.drop 0).flatten) := by
            show SrcF _ _ _ _ _
            rw [← OLN.out]
            exact L5.out.drop (by omega) (fun _ g e => by rw [e, Nat.zero_mul])
          have T1 : Hid ((css.take 0).flatten.length = 0 * 3) := L5.out.takeLen (by have := OLN.out; omega)
          have T2 : Hid ((css.drop 0).flatten.length = (k - 0) * 3) := by
            show _ = _
            rw [← OLN.out]
            exact L5.out.dropLen 0
          have SPL := RowS.split css 0
          have O1 : Hid (∀ u ∈ (css.take 0).flatten, u.oneCell' = true) := fun u hu => L5.out.one u (by rw [← SPL]; exact List.mem_append_left _ hu)
          have O2 : Hid (∀ u ∈ (css.drop 0).flatten, u.oneCell' = true) := fun u hu => L5.out.one u (by rw [← SPL]; exact List.mem_append_right _ hu)
          have INS := hide (fun (w9 : World) (A9 : Option Addr) (c9 m : Nat) (hr : w9.ownsRow w5.heap.size 51 3 (.slice A9 m c9) m (((css.take 0).flatten ++ [.slice A1 m1 c1, .slice A2 m2 c2, .bool m3]) ++ (css.drop 0).flatten)) (hm : m = out.length + 1) (k9 : Ext w5 w9) => L5.out.ins (kdItem.rd_more (kdItem.rd_ext MK.out XE.out (Nat.le_refl _)) XE.out.size) (by have := OLN.out; omega) hr hm k9)
          have EI : Hid (insAt out x 0 = sortS (ltE d) (xs.take (k + 1))) := by
            show _ = _
            rw [SXK.out]
            unfold insS
            rw [OLN.out, HK.out]
          rw [EI.out, OLN.out] at INS
          obtain ⟨b5, b6, b7, b8, b9, b10⟩ := bdsP (p := 0) hjk (Nat.le_trans hk h14)
          generalize insAt css [.slice A1 m1 c1, .slice A2 m2 c2, .bool m3] 0 = css' at *
          generalize (css.take 0).flatten = t1 at *
          generalize (css.drop 0).flatten = t2 at *
          have YA : Hid (Ext w5 ((w5.alloc (.cells #[] 51)).drew)) := (Ext.alloc _ _).trans (Ext.drew _)
          have YB : Hid (Ext w5 (((w5.alloc (.cells #[] 51)).alloc (.cells #[.slice A1 m1 c1, .slice A2 m2 c2, .bool m3] 51)).drew)) := ((Ext.alloc _ _).trans (Ext.alloc _ _)).trans (Ext.drew _)
          have YC : Hid (Ext w5 (((w5.alloc (.cells #[.slice A1 m1 c1, .slice A2 m2 c2, .bool m3] 51)).alloc (.cells #[] 51)).drew)) := ((Ext.alloc _ _).trans (Ext.alloc _ _)).trans (Ext.drew _)
          have RA : Hid (World.ownsRow ((w5.alloc (.cells #[] 51)).drew) w5.heap.size 51 3 (.slice (some ⟨w5.heap.size, 0, none⟩) 0 0) 0 []) := row_empty ((Blk.new rfl #[] 51).ext (Ext.drew _)) (Nat.le_refl _)
          have RB : Hid (World.ownsRow (((w5.alloc (.cells #[] 51)).alloc (.cells #[.slice A1 m1 c1, .slice A2 m2 c2, .bool m3] 51)).drew) w5.heap.size 51 3 (.slice (some ⟨w5.heap.size, 0, none⟩) 0 0) 0 []) := row_empty (((Blk.new rfl #[] 51).alloc _).ext (Ext.drew _)) (Nat.le_refl _)
          have RC : Hid (World.ownsRow (((w5.alloc (.cells #[.slice A1 m1 c1, .slice A2 m2 c2, .bool m3] 51)).alloc (.cells #[] 51)).drew) w5.heap.size 51 3 (.slice (some ⟨w5.heap.size + 1, 0, none⟩) 0 0) 0 []) := row_empty ((Blk.new (w := w5.alloc (.cells #[.slice A1 m1 c1, .slice A2 m2 c2, .bool m3] 51)) (by simp) #[] 51).ext (Ext.drew _)) (Nat.le_succ _)
          have LB : Hid (Blk (((w5.alloc (.cells #[] 51)).alloc (.cells #[.slice A1 m1 c1, .slice A2 m2 c2, .bool m3] 51)).drew) (w5.heap.size + 1) #[.slice A1 m1 c1, .slice A2 m2 c2, .bool m3] 51) := (Blk.new (w := w5.alloc (.cells #[] 51)) (by simp) #[.slice A1 m1 c1, .slice A2 m2 c2, .bool m3] 51).ext (Ext.drew _)
          have LC : Hid (Blk (((w5.alloc (.cells #[.slice A1 m1 c1, .slice A2 m2 c2, .bool m3] 51)).alloc (.cells #[] 51)).drew) w5.heap.size #[.slice A1 m1 c1, .slice A2 m2 c2, .bool m3] 51) := ((Blk.new (w := w5) rfl #[.slice A1 m1 c1, .slice A2 m2 c2, .bool m3] 51).alloc _).ext (Ext.drew _)
          have SA := hide (ST.out.ext YA.out (Nat.le_refl _))
          have SB := hide (ST.out.ext YB.out (Nat.le_refl _))
          have SC := hide (ST.out.ext YC.out (Nat.le_refl _))
          have zA := YA.out.size; have zB := YB.out.size; have zC := YC.out.size
          clear SPL EI HK
          go_wp2_with fail
          go_region_held3 (fun w' => ∀ i, w'.cell? ⟨g1, i, none⟩ = #[.slice A1 m1 c1, .slice A2 m2 c2, .bool m3][i]?)
            (first | with_reducible exact D5.out.cell | with_reducible exact (D5.out.alloc _).cell | with_reducible exact ((D5.out.alloc _).alloc _).cell | with_reducible exact B10.out.cell | with_reducible exact B9.out.cell | with_reducible exact (B8.out.alloc _).cell | with_reducible exact B8.out.cell | with_reducible exact B5.out.cell | with_reducible exact (B5.out.alloc _).cell | with_reducible exact ((B5.out.alloc _).alloc _).cell | with_reducible exact ((B5.out.alloc _).ext (Ext.drew _)).cell | with_reducible exact (((B5.out.alloc _).alloc _).ext (Ext.drew _)).cell)
            (first
            | (refine step_append_flat0 (w := (w5.alloc (.cells #[] 51)).drew) (by rfl) (.tmp 34) (.tmp 37) (by rfl) elemN_item (by decide) (by rfl) (by rfl) RA.out T1.out SA.out O1.out b5 b6 zA ?_; intro A8 c8 w8 o8 g8 p8; have E8 : Hid (Ext w5 w8) := Ext.apdF YA.out RA.out (Nat.le_refl _) g8; have O8 := hide o8; have B8 := hide (B5.out.ext E8.out); have z8 := E8.out.size; have E8a : Hid (Ext w5 (w8.alloc (.cells #[.slice A1 m1 c1, .slice A2 m2 c2, .bool m3] 51))) := E8.out.trans (Ext.alloc _ _); have O8a := hide (World.ownsRow.alloc o8 (.cells #[.slice A1 m1 c1, .slice A2 m2 c2, .bool m3] 51)); have L8a := hide (src_one (Blk.new (w := w8) rfl #[.slice A1 m1 c1, .slice A2 m2 c2, .bool m3] 51)); have z8a := E8a.out.size; clear o8 g8 p8)
            | (refine step_append_flat0 (w := ((w5.alloc (.cells #[] 51)).alloc (.cells #[.slice A1 m1 c1, .slice A2 m2 c2, .bool m3] 51)).drew) (by rfl) (.tmp 34) (.tmp 37) (by rfl) elemN_item (by decide) (by rfl) (by rfl) RB.out T1.out SB.out O1.out b5 b6 zB ?_; intro A8 c8 w8 o8 g8 p8; have E8 : Hid (Ext w5 w8) := Ext.apdF YB.out RB.out (Nat.le_refl _) g8; have O8 := hide o8; have B8 := hide (B5.out.ext E8.out); have z8 := E8.out.size; have E8a : Hid (Ext w5 (w8.alloc (.cells #[.slice A1 m1 c1, .slice A2 m2 c2, .bool m3] 51))) := E8.out.trans (Ext.alloc _ _); have O8a := hide (World.ownsRow.alloc o8 (.cells #[.slice A1 m1 c1, .slice A2 m2 c2, .bool m3] 51)); have L8a := hide (src_one (Blk.new (w := w8) rfl #[.slice A1 m1 c1, .slice A2 m2 c2, .bool m3] 51)); have z8a := E8a.out.size; have LT := hide (Blk.apdF LB.out g8 (fun p hp => by cases hp; simp)); clear o8 g8 p8)
            | (refine step_append_flat0 (w := ((w5.alloc (.cells #[.slice A1 m1 c1, .slice A2 m2 c2, .bool m3] 51)).alloc (.cells #[] 51)).drew) (by rfl) (.tmp 34) (.tmp 37) (by rfl) elemN_item (by decide) (by rfl) (by rfl) RC.out T1.out SC.out O1.out b5 b6 zC ?_; intro A8 c8 w8 o8 g8 p8; have E8 : Hid (Ext w5 w8) := Ext.apdF YC.out RC.out (Nat.le_refl _) g8; have O8 := hide o8; have B8 := hide (B5.out.ext E8.out); have z8 := E8.out.size; have E8a : Hid (Ext w5 (w8.alloc (.cells #[.slice A1 m1 c1, .slice A2 m2 c2, .bool m3] 51))) := E8.out.trans (Ext.alloc _ _); have O8a := hide (World.ownsRow.alloc o8 (.cells #[.slice A1 m1 c1, .slice A2 m2 c2, .bool m3] 51)); have L8a := hide (src_one (Blk.new (w := w8) rfl #[.slice A1 m1 c1, .slice A2 m2 c2, .bool m3] 51)); have z8a := E8a.out.size; have LT := hide (Blk.apdF LC.out g8 (fun p hp => by cases hp; simp)); clear o8 g8 p8)
            | (refine step_append_flat (w := w8) (by rfl) (.tmp 38) (.tmp 40) (by rfl) elemN_item (by decide) (by rfl) (by rfl) O8.out (by rfl) (src_one LT.out) (one_item A1 A2 m1 m2 c1 c2 m3) b7 b8 z8 ?_; intro A9 c9 w9 o9 g9 p9; have E9 : Hid (Ext w5 w9) := Ext.apdF E8.out O8.out (Nat.le_refl _) g9; have O9 := hide o9; have B9 := hide (B5.out.ext E9.out); have S9 := hide (SD.out.ext E9.out (Nat.le_refl _)); have z9 := E9.out.size; clear o9 g9 p9)
            | (refine step_append_flat (w := w8.alloc (.cells #[.slice A1 m1 c1, .slice A2 m2 c2, .bool m3] 51)) (by rfl) (.tmp 38) (.tmp 40) (by rfl) elemN_item (by decide) (by rfl) (by rfl) O8a.out (by rfl) L8a.out (one_item A1 A2 m1 m2 c1 c2 m3) b7 b8 z8a ?_; intro A9 c9 w9 o9 g9 p9; have E9 : Hid (Ext w5 w9) := Ext.apdF E8a.out O8a.out (Nat.le_refl _) g9; have O9 := hide o9; have B9 := hide (B5.out.ext E9.out); have S9 := hide (SD.out.ext E9.out (Nat.le_refl _)); have z9 := E9.out.size; clear o9 g9 p9)
            | (refine step_append_flat (w := w9) (by rfl) (.tmp 41) (.tmp 44) (by rfl) elemN_item (by decide) (by rfl) (by rfl) O9.out T2.out S9.out O2.out b9 b10 z9 ?_; intro A10 c10 w10 o10 g10 p10; have E10 : Hid (Ext w5 w10) := Ext.apdF E9.out O9.out (Nat.le_refl _) g10; have O10 := hide o10; have B10 := hide (B5.out.ext E10.out); clear o10 g10 p10)
            | fail)
          all_goals
            go_wp2
            go_roundw
            case rel => exact ⟨k + 1, A10, c10, css', by omega, by go_num, congrArg (fun m => Value.slice A10 m c10) (by omega), INS.out w10 A10 c10 _ O10.out (by omega) E10.out, (X1.out.trans XE.out).trans E10.out⟩
            case measure => simp [intOf]; omega
    · have ek : n = k := by omega
      subst ek
      rw [List.take_of_length_le (by rw [hn.out]; exact Nat.le_refl _)] at LO5
      have LQ := hide LO5.out.lr
      go_wp2_with fail
      refine (ML.out wr A5 c5 LQ.out).mono ?_
      rintro e w6 ⟨A6, c6, fp6, rfl, l6, s6, x6⟩
      have L6 := hide l6
      have S6 := hide s6
      have X6 := hide x6
      have z0 := (X0.out.trans HX.out).size
      clear l6 s6 x6 ML
      go_wp2
      go_ret
      exact ⟨_, _, fp6, rfl, L6.out, fun i hi => by have := S6.out i hi; omega, (X0.out.trans HX.out).trans X6.out⟩
end Go.Proofs.YtegoapdbpfhkiaaGreat

/- OrderForLate by the reference. -/
namespace Go.Proofs.YtegoapdbpfhkiaaGreat
open Go.RowKit Go.Sort
set_option linter.unusedVariables false

end Go.Proofs.YtegoapdbpfhkiaaGreat
