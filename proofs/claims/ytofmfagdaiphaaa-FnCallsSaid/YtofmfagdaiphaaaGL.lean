/- GL: EL, EM in one text. -/
import Derived.Test.YtofmfagdaiphaaaEK
import Derived.Test.YtofmfagdaiphaaaGD
/- What a draw hands back, read: codes and lists of items, whatever becomes of other memory. -/
namespace Go.Proofs.Ytofmfagdaiphaaa
open Go.RowKit Go.Sort
set_option linter.unusedVariables false

/-- Nothing from lo on has turned. -/
def Since (lo : Nat) (w w2 : World) : Prop := w.heap.size ≤ w2.heap.size ∧ ∀ i, lo ≤ i → i < w.heap.size → w2.heap[i]? = w.heap[i]?
theorem Since.refl (lo : Nat) (w : World) : Since lo w w := ⟨Nat.le_refl _, fun _ _ _ => rfl⟩
theorem Since.trans {lo : Nat} {a b c : World} (h : Since lo a b) (k : Since lo b c) : Since lo a c := ⟨Nat.le_trans h.1 k.1, fun i h1 h2 => (k.2 i h1 (Nat.lt_of_lt_of_le h2 h.1)).trans (h.2 i h1 h2)⟩
theorem Since.of_ext {lo : Nat} {w w2 : World} (k : Ext w w2) : Since lo w w2 := ⟨k.size, fun i _ h2 => k.block i h2⟩
theorem Since.put {lo : Nat} (w : World) {p : Addr} (hp : p.block < lo) (u : Value) : Since lo w (w.setCell p u) := ⟨by simp [World.setCell], fun i h1 _ => Below.heap_setCell _ _ _ _ (by omega)⟩
theorem TS.since {lo L : Nat} {T : Typ} {w w2 : World} (h : TS lo L T w) (k : Since lo w w2) : TS lo L T w2 := h.keep k.1 fun b hb => by
  cases hT : T b with
  | none => exact absurd hT hb
  | some r => have := h.lt b r hT; exact k.2 b this.1 this.2
/-- A list of items that stays readable. -/
def LsR (lo : Nat) (w : World) (A : Option Addr) (n c : Nat) : Prop := ∃ xs : List ItD, xs.length = n ∧ wtL kdItem xs ≤ 1048576 ∧ (∀ x ∈ xs, pIt 0 64 x) ∧ ∀ w2, Since lo w w2 → LR kdItem w2 w2.heap.size A c xs
theorem LsR.since {lo : Nat} {w w2 : World} {A : Option Addr} {n c : Nat} (h : LsR lo w A n c) (k : Since lo w w2) : LsR lo w2 A n c := by
  obtain ⟨xs, h1, h2, h3, h4⟩ := h
  exact ⟨xs, h1, h2, h3, fun w3 k3 => h4 w3 (k.trans k3)⟩
theorem wtEl_le {xs : List ElD} (hl : xs.length ≤ 64) (h : ∀ x ∈ xs, pEl x) : wtL kdEl xs ≤ 1088 := by
  have h3 : ∀ ys : List ElD, (∀ y ∈ ys, pEl y) → wtL kdEl ys ≤ 17 * ys.length := by
    intro ys
    induction ys with
    | nil => intro _; exact Nat.le_refl _
    | cons y t ih =>
      intro hy
      have h4 := ih (fun z hz => hy z (by simp [hz]))
      have h5 := (hy y (by simp)).1
      have h6 := kdEl.wt_eq y
      show 1 + kdEl.wt y + wtL kdEl t ≤ 17 * (t.length + 1)
      omega
  have := h3 xs h
  omega
/-- What is read out of a typed row without memory of its own stays readable. -/
theorem LR.since {α : Type} {K : Kd α} (hK : ∀ (w w2 : World) (B B2 : Nat) (cs : List Value) (x : α), K.rd w B cs x → K.rd w2 B2 cs x) {lo L : Nat} {T : Typ} {w w2 : World} {ks : List VK} {e : TypeId} {A : Option Addr} {n c : Nat} {xs : List α} (h : TS lo L T w) (s : ST T ks e A n c) (hn : xs.length ≤ n) (r : LR K w w.heap.size A c xs) (k : Since lo w w2) : LR K w2 w2.heap.size A c xs := by
  refine ⟨r.1, r.2.1, fun i x hx => ?_⟩
  obtain ⟨b, off, cs, eA, hb, hr, hc⟩ := r.2.2 i x hx
  obtain ⟨q, m, eA', hT, hm⟩ := s.pos (by have := (List.getElem?_eq_some_iff.1 hx).1; omega)
  rw [eA] at eA'
  obtain rfl : b = q := congrArg Addr.block (Option.some.inj eA')
  have hl := h.lt b _ hT
  exact ⟨b, off, cs, eA, by have := k.1; omega, hK _ _ _ _ _ _ hr, fun j u hu => (World.cell?_of_block (k.2 b hl.1 hl.2)).trans (hc j u hu)⟩
theorem flatS : ∀ (w w2 : World) (B B2 : Nat) (cs : List Value) (x : List UInt8), kdS.rd w B cs x → kdS.rd w2 B2 cs x := fun _ _ _ _ _ _ h => h
theorem flatI : ∀ (w w2 : World) (B B2 : Nat) (cs : List Value) (x : Int), kdInt.rd w B cs x → kdInt.rd w2 B2 cs x := fun _ _ _ _ _ _ h => h
theorem flatE : ∀ (w w2 : World) (B B2 : Nat) (cs : List Value) (x : ElD), kdEl.rd w B cs x → kdEl.rd w2 B2 cs x := fun w w2 B B2 cs x h => by
  obtain ⟨e, hl⟩ := kdEl.open_ h
  subst e
  exact kdEl.mk_ w2 B2 x hl
/-- A row of items whose names and marks lie in typed rows. -/
def ItRow (lo : Nat) (T : Typ) (w : World) (A : Option Addr) (n c : Nat) : Prop :=
  n ≤ c ∧ c ≤ 9223372036854775807 ∧ n ≤ 64 ∧ (0 < n → ∃ x, A = some ⟨x, 0, none⟩ ∧ lo ≤ x ∧ x < w.heap.size ∧ ∀ i, i < n → ∃ A1 n1 c1 A2 n2 c2 q, w.cell? ⟨x, i * 3, none⟩ = some (.slice A1 n1 c1) ∧ w.cell? ⟨x, i * 3 + 1, none⟩ = some (.slice A2 n2 c2) ∧ w.cell? ⟨x, i * 3 + 2, none⟩ = some (.bool q) ∧ ST T [.str] 9 A1 n1 c1 ∧ ST T [.int] 3 A2 n2 c2)
theorem TS.row_it {lo p : Nat} {T : Typ} {w : World} {A : Option Addr} {n c : Nat} (h : TS lo 64 T w) (s : ST T (ksIt p) 50 A n c) : ItRow lo T w A n c := by
  have hl := h.len s
  refine ⟨hl.2.1, by have := hl.2.2; unfold maxLen at this; omega, hl.1, fun hn => ?_⟩
  obtain ⟨x, m, rfl, hT, hm⟩ := s.pos hn
  have hx := h.lt x _ hT
  refine ⟨x, rfl, hx.1, hx.2, fun i hi => ?_⟩
  obtain ⟨x0, v, e0, h1, h2, _⟩ := h.load s hi (show (ksIt p)[0]? = some (vS p) from rfl)
  obtain ⟨x1, v1, e1, i1, j1, _⟩ := h.load s hi (show (ksIt p)[1]? = some (vI p) from rfl)
  obtain ⟨x2, v2, e2, i2, j2, _⟩ := h.load s hi (show (ksIt p)[2]? = some .bool from rfl)
  have f0 : x0 = x := (congrArg Addr.block (Option.some.inj e0)).symm
  have f1 : x1 = x := (congrArg Addr.block (Option.some.inj e1)).symm
  have f2 : x2 = x := (congrArg Addr.block (Option.some.inj e2)).symm
  subst f0 f1 f2
  obtain ⟨A1, n1, c1, rfl, s1, p1⟩ := h2
  obtain ⟨A2, n2, c2, rfl, s2, p2⟩ := j1
  obtain ⟨q, rfl⟩ := j2
  exact ⟨A1, n1, c1, A2, n2, c2, q, h1, i1, i2, s1, s2⟩
theorem ItRow.ls {lo : Nat} {T : Typ} {w : World} {A : Option Addr} {n c : Nat} (h : TS lo 64 T w) (r : ItRow lo T w A n c) : LsR lo w A n c := by
  obtain ⟨hnc, hcm, hn64, hrow⟩ := r
  by_cases hn0 : n = 0
  · subst hn0
    exact ⟨[], rfl, by decide, by simp, fun w2 _ => ⟨Nat.zero_le _, hcm, by simp⟩⟩
  · obtain ⟨b, rfl, hlo, hb, hel⟩ := hrow (by omega)
    have main : ∀ m, m ≤ n → ∃ xs : List ItD, xs.length = m ∧ (∀ x ∈ xs, pIt 0 64 x) ∧ ∀ (i : Nat) (x : ItD), xs[i]? = some x → ∃ A1 c1 A2 c2, w.cell? ⟨b, i * 3, none⟩ = some (.slice A1 x.1.length c1) ∧ w.cell? ⟨b, i * 3 + 1, none⟩ = some (.slice A2 x.2.1.length c2) ∧ w.cell? ⟨b, i * 3 + 2, none⟩ = some (.bool x.2.2) ∧ ∀ w2, Since lo w w2 → LR kdS w2 w2.heap.size A1 c1 x.1 ∧ LR kdInt w2 w2.heap.size A2 c2 x.2.1 := by
      intro m
      induction m with
      | zero => exact fun _ => ⟨[], rfl, by simp, by simp⟩
      | succ m ih =>
        intro hm
        obtain ⟨xs, e1, e2, e3⟩ := ih (by omega)
        obtain ⟨A1, n1, c1, A2, n2, c2, q, g1, g2, g3, s1, s2⟩ := hel m (by omega)
        obtain ⟨ys, r1, l1, p1⟩ := LR.of_ST rfl (exp_str 64) h s1
        obtain ⟨zs, r2, l2, _⟩ := LR.of_ST rfl (exp_int 64) h s2
        have b1 := (h.len s1).1
        have b2 := (h.len s2).1
        refine ⟨xs ++ [(ys, zs, q)], by simp [e1], fun x hx => ?_, fun i x hx => ?_⟩
        · rcases List.mem_append.1 hx with hx | hx
          · exact e2 x hx
          · simp at hx
            subst hx
            exact ⟨⟨Nat.zero_le _, by show ys.length ≤ 64; omega, p1⟩, ⟨Nat.zero_le _, by show zs.length ≤ 64; omega, fun _ _ => trivial⟩, trivial⟩
        · by_cases hi : i < xs.length
          · rw [List.getElem?_append_left hi] at hx
            exact e3 i x hx
          · have hk2 := (List.getElem?_eq_some_iff.1 hx).1
            simp at hk2
            obtain rfl : i = xs.length := by omega
            rw [List.getElem?_append_right (Nat.le_refl _)] at hx
            simp at hx
            subst hx
            rw [e1]
            exact ⟨A1, c1, A2, c2, by rw [g1, l1], by rw [g2, l2], g3, fun w2 k2 => ⟨LR.since flatS h s1 (Nat.le_of_eq l1) r1 k2, LR.since flatI h s2 (Nat.le_of_eq l2) r2 k2⟩⟩
    obtain ⟨xs, e1, e2, e3⟩ := main n (Nat.le_refl _)
    refine ⟨xs, e1, pIts.wt (by omega) e2, e2, fun w2 k2 => ⟨by omega, hcm, fun i x hx => ?_⟩⟩
    obtain ⟨A1, c1, A2, c2, g1, g2, g3, g4⟩ := e3 i x hx
    have hs := g4 w2 k2
    refine ⟨b, 0, _, rfl, by have := k2.1; omega, kdItem.mk_ hs.1 hs.2, fun j u hu => ?_⟩
    have hc : ∀ q, w2.cell? ⟨b, q, none⟩ = w.cell? ⟨b, q, none⟩ := fun q => World.cell?_of_block (k2.2 b hlo hb)
    have e9 : kdItem.size = 3 := rfl
    rw [hc, Nat.zero_add, e9]
    match j, hu with
    | 0, hu => simp at hu; subst hu; exact g1
    | 1, hu => simp at hu; subst hu; exact g2
    | 2, hu => simp at hu; subst hu; exact g3
    | j + 3, hu => simp at hu
/-- Rows without slices alone. -/
def plainK : List VK → Bool
  | [] => true
  | .sl _ _ _ :: _ => false
  | _ :: t => plainK t
theorem plainK.vt {ks : List VK} (h : plainK ks = true) {T T' : Typ} {k : VK} {v : Value} (hk : k ∈ ks) (s : VT T k v) : VT T' k v := by
  induction ks with
  | nil => simp at hk
  | cons a t ih =>
    cases a with
    | sl x y z => simp [plainK] at h
    | str =>
      rcases List.mem_cons.1 hk with e | e
      · subst e; exact s
      · exact ih h e
    | int =>
      rcases List.mem_cons.1 hk with e | e
      · subst e; exact s
      · exact ih h e
    | bool =>
      rcases List.mem_cons.1 hk with e | e
      · subst e; exact s
      · exact ih h e
def Typ.plain (T : Typ) : Typ := fun b => match T b with
  | some r => if plainK r.1 then some r else none
  | none => none
theorem Typ.plain_of {T : Typ} {b : Nat} {r} (h : T b = some r) (hk : plainK r.1 = true) : T.plain b = some r := by simp [Typ.plain, h, hk]
theorem Typ.plain_not {T : Typ} {b : Nat} {r} (h : T b = some r) (hk : plainK r.1 = false) : T.plain b = none := by simp [Typ.plain, h, hk]
theorem Typ.plain_inv {T : Typ} {b : Nat} {r} (h : T.plain b = some r) : T b = some r ∧ plainK r.1 = true := by
  unfold Typ.plain at h
  split at h
  · next q hq =>
    split at h
    · next hk => injection h with h; subst h; exact ⟨hq, hk⟩
    · cases h
  · cases h
theorem TS.plain {lo L : Nat} {T : Typ} {w : World} (h : TS lo L T w) : TS lo L T.plain w where
  lt b r hb := h.lt b r (Typ.plain_inv hb).1
  row b ks e m c hb := by
    obtain ⟨h0, hk⟩ := Typ.plain_inv hb
    obtain ⟨h1, h2, h3, cur, h4, h5, h6⟩ := h.row b ks e m c h0
    refine ⟨h1, h2, h3, cur, h4, h5, fun i hi j k hj => ?_⟩
    obtain ⟨v, h7, h8⟩ := h6 i hi j k hj
    exact ⟨v, h7, plainK.vt hk (List.mem_of_getElem? hj) h8⟩
theorem ST.plain {T : Typ} {ks : List VK} {e : TypeId} {A : Option Addr} {n c : Nat} (s : ST T ks e A n c) (hk : plainK ks = true) : ST T.plain ks e A n c := by
  rcases s with s | ⟨b, m, rfl, hb, hn⟩
  · exact .inl s
  · exact .inr ⟨b, m, rfl, Typ.plain_of hb hk, hn⟩
/-- An item of a row replaced by another. -/
theorem TS.put_it {lo p x i n c : Nat} {T : Typ} {w : World} {A1 A2 : Option Addr} {n1 c1 n2 c2 : Nat} {q : Bool} (h : TS lo 64 T w) (s : ST T (ksIt p) 50 (some ⟨x, 0, none⟩) n c) (hi : i < n) (s1 : ST T [.str] 9 A1 n1 c1) (s2 : ST T [.int] 3 A2 n2 c2) :
    TS lo 64 T.plain (((w.setCell ⟨x, i * 3, none⟩ (.slice A1 n1 c1)).setCell ⟨x, i * 3 + 1, none⟩ (.slice A2 n2 c2)).setCell ⟨x, i * 3 + 2, none⟩ (.bool q)) ∧ ItRow lo T.plain (((w.setCell ⟨x, i * 3, none⟩ (.slice A1 n1 c1)).setCell ⟨x, i * 3 + 1, none⟩ (.slice A2 n2 c2)).setCell ⟨x, i * 3 + 2, none⟩ (.bool q)) (some ⟨x, 0, none⟩) n c := by
  have r := h.row_it s
  obtain ⟨x', m, e, hT, hm⟩ := s.pos (by omega)
  obtain rfl : x = x' := congrArg Addr.block (Option.some.inj e)
  obtain ⟨_, _, _, cur, hcur, hsz, _⟩ := h.row x _ _ m c hT
  have hz : T.plain x = none := Typ.plain_not hT rfl
  have hc := cell_of_row w x
  have blk : Blk w x cur 50 := hcur
  have b1 := blk.set (i * 3) (.slice A1 n1 c1)
  have b2 := b1.set (i * 3 + 1) (.slice A2 n2 c2)
  have b3 := b2.set (i * 3 + 2) (.bool q)
  have hsz3 : cur.size = c * 3 := hsz
  have hic : (i + 1) * 3 ≤ c * 3 := Nat.mul_le_mul_right _ (by have := r.1; omega)
  refine ⟨?_, r.1, r.2.1, r.2.2.1, fun hn => ?_⟩
  · have t1 := h.plain.tchF (TchF.put w ⟨x, i * 3, none⟩ (.slice A1 n1 c1) (fp := [x]) (by simp)) (fun j hj => by simp at hj; subst hj; exact hz)
    have t2 := t1.tchF (TchF.put _ ⟨x, i * 3 + 1, none⟩ (.slice A2 n2 c2) (fp := [x]) (by simp)) (fun j hj => by simp at hj; subst hj; exact hz)
    exact t2.tchF (TchF.put _ ⟨x, i * 3 + 2, none⟩ (.bool q) (fp := [x]) (by simp)) (fun j hj => by simp at hj; subst hj; exact hz)
  · obtain ⟨y, e2, hlo, hlt, hel⟩ := r.2.2.2 hn
    obtain rfl : x = y := congrArg Addr.block (Option.some.inj e2)
    refine ⟨x, rfl, hlo, b3.lt, fun j hj => ?_⟩
    have hb : ∀ o, o < cur.size → (((w.setCell ⟨x, i * 3, none⟩ (.slice A1 n1 c1)).setCell ⟨x, i * 3 + 1, none⟩ (.slice A2 n2 c2)).setCell ⟨x, i * 3 + 2, none⟩ (.bool q)).cell? ⟨x, o, none⟩ = if o = i * 3 + 2 then some (.bool q) else if o = i * 3 + 1 then some (.slice A2 n2 c2) else if o = i * 3 then some (.slice A1 n1 c1) else w.cell? ⟨x, o, none⟩ := by
      intro o ho
      rw [b3.cell o, blk.cell o]
      rw [Array.getElem?_setIfInBounds, Array.getElem?_setIfInBounds, Array.getElem?_setIfInBounds]
      by_cases h1 : i * 3 + 2 = o
      · subst h1
        simp [ho]
      · by_cases h2 : i * 3 + 1 = o
        · subst h2
          simp [ho]
        · by_cases h3 : i * 3 = o
          · subst h3
            simp [ho]
          · simp [h1, h2, h3, Ne.symm h1, Ne.symm h2, Ne.symm h3]
    have hjc : (j + 1) * 3 ≤ c * 3 := Nat.mul_le_mul_right _ (by have := r.1; omega)
    by_cases hji : j = i
    · subst hji
      refine ⟨A1, n1, c1, A2, n2, c2, q, ?_, ?_, ?_, s1.plain rfl, s2.plain rfl⟩
      · rw [hb _ (by omega), if_neg (by omega), if_neg (by omega), if_pos rfl]
      · rw [hb _ (by omega), if_neg (by omega), if_pos rfl]
      · rw [hb _ (by omega), if_pos rfl]
    · obtain ⟨B1, m1, d1, B2, m2, d2, q2, g1, g2, g3, t1, t2⟩ := hel j hj
      refine ⟨B1, m1, d1, B2, m2, d2, q2, ?_, ?_, ?_, t1.plain rfl, t2.plain rfl⟩
      · rw [hb _ (by omega), if_neg (by omega), if_neg (by omega), if_neg (by omega), g1]
      · rw [hb _ (by omega), if_neg (by omega), if_neg (by omega), if_neg (by omega), g2]
      · rw [hb _ (by omega), if_neg (by omega), if_neg (by omega), if_neg (by omega), g3]
end Go.Proofs.Ytofmfagdaiphaaa

/- Draws for the laws on bases: a code and a list that mostly fit. -/
namespace Go.Proofs.Ytofmfagdaiphaaa
open Go.RowKit Go.Sort
set_option linter.unusedVariables false

theorem ItRow.keep {lo : Nat} {T : Typ} {w w' : World} {A : Option Addr} {n c : Nat} (r : ItRow lo T w A n c) (hs : w.heap.size ≤ w'.heap.size) (k : ∀ x, A = some ⟨x, 0, none⟩ → w'.heap[x]? = w.heap[x]?) : ItRow lo T w' A n c := by
  refine ⟨r.1, r.2.1, r.2.2.1, fun hn => ?_⟩
  obtain ⟨x, rfl, h1, h2, h3⟩ := r.2.2.2 hn
  refine ⟨x, rfl, h1, by omega, fun i hi => ?_⟩
  obtain ⟨A1, n1, c1, A2, n2, c2, q, g1, g2, g3, s1, s2⟩ := h3 i hi
  have e : ∀ o, w'.cell? ⟨x, o, none⟩ = w.cell? ⟨x, o, none⟩ := fun o => World.cell?_of_block (k x rfl)
  exact ⟨A1, n1, c1, A2, n2, c2, q, by rw [e, g1], by rw [e, g2], by rw [e, g3], s1, s2⟩
/-- Six cells of one block stored. -/
abbrev set6 (w : World) (x : Nat) (u0 u1 u2 u3 u4 u5 : Value) : World := (((((w.setCell ⟨x, 0, none⟩ u0).setCell ⟨x, 1, none⟩ u1).setCell ⟨x, 2, none⟩ u2).setCell ⟨x, 3, none⟩ u3).setCell ⟨x, 4, none⟩ u4).setCell ⟨x, 5, none⟩ u5
theorem set6_tch (w : World) (x : Nat) (u0 u1 u2 u3 u4 u5 : Value) : TchF [x] w (set6 w x u0 u1 u2 u3 u4 u5) :=
  (((((TchF.put _ _ _ (by simp)).trans (TchF.put _ _ _ (by simp))).trans (TchF.put _ _ _ (by simp))).trans (TchF.put _ _ _ (by simp))).trans (TchF.put _ _ _ (by simp))).trans (TchF.put _ _ _ (by simp))
theorem Since.less {lo lo' : Nat} {w w2 : World} (h : Since lo' w w2) (hl : lo' ≤ lo) : Since lo w w2 := ⟨h.1, fun i h1 h2 => h.2 i (by omega) h2⟩
theorem LsR.less {lo lo' : Nat} {w : World} {A : Option Addr} {n c : Nat} (h : LsR lo w A n c) (hl : lo' ≤ lo) : LsR lo' w A n c := by
  obtain ⟨xs, h1, h2, h3, h4⟩ := h
  exact ⟨xs, h1, h2, h3, fun w2 k => h4 w2 (k.less hl)⟩
theorem Since.put6 {lo : Nat} (w : World) {x : Nat} (hx : x < lo) (u0 u1 u2 u3 u4 u5 : Value) : Since lo w (set6 w x u0 u1 u2 u3 u4 u5) :=
  (((((Since.put _ hx _).trans (Since.put _ hx _)).trans (Since.put _ hx _)).trans (Since.put _ hx _)).trans (Since.put _ hx _)).trans (Since.put _ hx _)
theorem TchF.ext0 {w w0 w' : World} {g : Nat} (k : TchF [g] w0 w') (h : Ext w w0) (hg : w.heap.size ≤ g) : Ext w w' := h.tchF k (by simpa using hg)
end Go.Proofs.Ytofmfagdaiphaaa
