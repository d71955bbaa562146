/- GQ: OV, OW, OX, OY, OZ in one text. -/
import Derived.Test.YtcmoedjcokkdcaaGreatGO
import Derived.Test.YtcmoedjcokkdcaaGreatGA
import Derived.Test.YtcmoedjcokkdcaaGreatGN
import Derived.Deep.RegionHeld3
/- Marks looked at again: in texts, items, reviews, votes, sheets. -/
namespace Go.Proofs.YtcmoedjcokkdcaaGreat
open Go.RowKit Go.Sort
set_option linter.unusedVariables false

end Go.Proofs.YtcmoedjcokkdcaaGreat

/- Texts and items in new memory. -/
namespace Go.Proofs.YtcmoedjcokkdcaaGreat
open Go.RowKit Go.Sort
set_option linter.unusedVariables false

def strV (x : List UInt8) : Value := .string (bs x)
theorem LR.slS {w : World} {B c : Nat} {A : Option Addr} {xs : List (List UInt8)} (h : LR kdS w B A c xs) : Sl w B A xs.length (xs.map strV) := by
  refine ⟨by simp, fun h0 => ?_⟩
  obtain ⟨b, off, e, hb, _, _⟩ := h.str 0 xs[0] (List.getElem?_eq_getElem h0)
  refine ⟨b, off, e, hb, fun k u hu => ?_⟩
  rw [List.getElem?_map] at hu
  obtain ⟨z, hz, rfl⟩ := Option.map_eq_some_iff.1 hu
  obtain ⟨b', off', e', hb', hc', _⟩ := h.str k z hz
  rw [e] at e'
  simp only [Option.some.injEq, Addr.mk.injEq, and_true] at e'
  obtain ⟨rfl, rfl⟩ := e'
  exact hc'
theorem LR.lenS {w : World} {B c : Nat} {A : Option Addr} {xs : List (List UInt8)} (h : LR kdS w B A c xs) : ∀ x ∈ xs, x.length ≤ 9223372036854775807 := by
  intro x hx
  obtain ⟨k, hk⟩ := List.getElem?_of_mem hx
  obtain ⟨_, _, _, _, _, hl⟩ := h.str k x hk
  exact hl
theorem Own.loS {w : World} {lo n c : Nat} {A : Option Addr} {xs : List (List UInt8)} (h : Own 9 w lo A n c (xs.map strV)) (hx : ∀ x ∈ xs, x.length ≤ 9223372036854775807) : LO kdS 9 w A c xs (A.map (·.block)).toList := by
  have hl : xs.length = n := by have := h.len; simpa using this
  refine ⟨xs.map (fun x => [strV x]), xs.map (fun _ => []), ?_, by simp, by simp, ?_, ?_, ?_⟩
  · have h0 : w.ownsRow 0 9 1 (.slice A n c) n (xs.map strV) := Own.lower h (Nat.zero_le _)
    have e : (xs.map (fun x => [strV x])).flatten = xs.map strV := by
      clear h h0 hx hl
      induction xs with
      | nil => rfl
      | cons x t ih => simp [ih]
    rw [e, hl]
    exact h0
  · intro k cs x f h1 h2 h3
    rw [List.getElem?_map, h2] at h1 h3
    simp at h1 h3
    exact ⟨⟨h1.symm, hx x (List.mem_of_getElem? h2)⟩, h3⟩
  · have : (xs.map (fun _ => ([] : List Nat))).flatten = [] := by
      rw [List.flatten_eq_nil_iff]; simp
    rw [this]; simp
  · cases A <;> simp
theorem elem_str : Elem Tryz.prog 56 9 16 := Elem.mk Tryz.underlying56 info_str rfl
theorem oneCell_strs (xs : List (List UInt8)) : ∀ u ∈ xs.map strV, u.oneCell' = true := by
  intro u hu
  obtain ⟨x, _, rfl⟩ := List.mem_map.1 hu
  simp [strV, Value.oneCell']
theorem Own.fpLoS {e : TypeId} {w : World} {lo n c : Nat} {A : Option Addr} {vs : List Value} (h : Own e w lo A n c vs) : ∀ i ∈ (A.map (·.block)).toList, lo ≤ i := by
  intro i hi
  obtain ⟨p, hp, rfl⟩ := mem_of_opt hi
  exact Own.fromLo h p hp

end Go.Proofs.YtcmoedjcokkdcaaGreat

/- Lists of items in new memory. -/
namespace Go.Proofs.YtcmoedjcokkdcaaGreat
open Go.RowKit Go.Sort
set_option linter.unusedVariables false

theorem elemN_item : ElemN Tryz.prog 39 65 3 56 (.agg #[.slice none 0 0, .slice none 0 0, .bool false]) := ElemN.mk Tryz.underlying39 info_item rfl
theorem LO.emptyI (w : World) : LO kdItem 65 (w.alloc (.cells #[] 65)) (some ⟨w.heap.size, 0, none⟩) 0 [] [w.heap.size] :=
  ⟨[], [], World.ownsRow_lit w #[] 0 (Nat.zero_le _) (by unfold maxLen; omega) rfl, rfl, rfl, by simp, rfl, by simp⟩
theorem item_src (w : World) (a b c : Value) (t : TypeId) : ∀ j v, [a, b, c][j]? = some v → (w.alloc (.cells #[a, b, c] t)).cell? ⟨w.heap.size, 0 + j, none⟩ = some v := by
  intro j v h
  match j, h with
  | 0, h => simp at h; subst h; simp [World.cell?_alloc_at]
  | 1, h => simp at h; subst h; simp [World.cell?_alloc_at]
  | 2, h => simp at h; subst h; simp [World.cell?_alloc_at]
  | j + 3, h => simp at h

end Go.Proofs.YtcmoedjcokkdcaaGreat

/- The reference's lists of items in new memory. -/
namespace Go.Proofs.YtcmoedjcokkdcaaGreat
open Go.RowKit Go.Sort
set_option linter.unusedVariables false

theorem step_append_LOI {P : Program} {t e : TypeId} {bytes : Nat} {z : Value} {α : Type} {K : Kd α} {w : World} {A : Option Addr} {c : Nat} {xs : List α} {fp : List Nat} {ops : Array Oper} {o : Oper} {a : Act} {Q : Exit → Act → World → Prop} {KK : Act → World → Prop} {G : Prop} (hgd : o.guard = none) (s y : Operand)
    (hop : o.op = .call { callee := .builtin .append, args := #[s, y], argTypes := #[t, t] }) (E : ElemN P t e K.size bytes z) (hs0 : 0 < K.size)
    {gl d n : Nat} (hn : n = xs.length) (hs' : a.eval s = .slice A n c) (hx' : a.eval y = .slice (some ⟨gl, 0, none⟩) 1 d) (h : LO K e w A c xs fp) {cs : List Value} {x : α} {f : List Nat} (ho : K.own w cs x f) (hd : ∀ i ∈ f, i ∉ fp)
    (hsrc : ∀ j u, cs[j]? = some u → w.cell? ⟨gl, 0 + j, none⟩ = some u) (hb : (n + 1) * bytes ≤ 140737488355328) (hm : n + 1 ≤ 4611686018427387904)
    (hK : ∀ A' c' w' fp', ApL K e w fp f w' A' c' (xs ++ [x]) fp' → KK (a.put o.dst (.slice A' (n + 1) c')) w') :
    if Region.wanted o (yielded ops a.tmps) = true then Oper.wp P o a w KK Q else G := by
  have hw : Region.wanted o (yielded ops a.tmps) = true := by simp [Region.wanted, hgd]
  rw [if_pos hw]
  exact wp_append_LO s y hop E hs0 hn hs' hx' h ho hd hsrc hb hm hK

end Go.Proofs.YtcmoedjcokkdcaaGreat

/- Lists of items as the laws hand them about; one mark of an item in memory of the call's own. -/
namespace Go.Proofs.YtcmoedjcokkdcaaGreat
open Go.RowKit Go.Sort
set_option linter.unusedVariables false

theorem cntIt_wt (xs : List ItD) : kdItS.cnt xs ≤ kdItS.wt xs := by
  have h : kdItS.cnt xs ≤ 1 * kdItS.wt xs := cntL_le kdItem 1 (fun x => by
    have e1 : kdItem.cnt x = kdSS.cnt x.1 + (kdL.cnt x.2.1 + 1) := rfl
    have e2 : kdSS.cnt x.1 ≤ 1 * kdSS.wt x.1 := cntL_le kdS 1 (fun y => by have : kdS.cnt y = 1 := rfl; omega) x.1
    have e3 : kdL.cnt x.2.1 = x.2.1.length := cntL_int _
    have e4 : kdL.wt x.2.1 = x.2.1.length := wtL_int _
    rw [kdItem.wt_eq]
    omega) xs
  omega
def kIt : Kind (List ItD) where
  rd w v d := ∃ vs, v = kdItS.val vs ∧ kdItS.rd w w.heap.size vs d
  fr w lo hi v d := ∃ vs fp, v = kdItS.val vs ∧ kdItS.own w vs d fp ∧ (∀ i ∈ fp, lo ≤ i ∧ i < hi)
  ok d := kdItS.wt d ≤ 1048576
  mrk := kdItS.mrk
  cnt := kdItS.cnt
  rd_ext := by
    rintro w w' v d ⟨vs, rfl, h⟩ hx
    exact ⟨vs, rfl, kdItS.rd_more (kdItS.rd_ext h hx (Nat.le_refl _)) hx.size⟩
  fr_rd := by
    rintro w lo hi v d ⟨vs, fp, rfl, h, _⟩
    exact ⟨vs, rfl, kdItS.own_rd h⟩
  fr_tch := by
    rintro w w' lo hi lo' hi' v d ⟨vs, fp, rfl, h, hf⟩ k hd
    refine ⟨vs, fp, rfl, kdItS.own_keep h (fun i hi' => k.block i (kdItS.own_lt h i hi') ?_), hf⟩
    have := hf i hi'
    omega
  ok_cnt := fun {d} h => Nat.le_trans (Nat.le_trans (cntIt_wt d) h) (by decide)
theorem kIt.to : ToC Tryz.prog kIt 10 := by
  rintro w v d ⟨vs, rfl, h⟩ hn
  refine (kdItS.to_ _ _ d h hn).mono ?_
  rintro e w' ⟨vs', fp, rfl, ho, hf, hx⟩
  exact ⟨_, rfl, ⟨vs', fp, rfl, ho, fun i hi => ⟨hf i hi, kdItS.own_lt ho i hi⟩⟩, hx⟩
theorem kIt.eq : EqC Tryz.prog kIt 15 := by
  rintro w v v' d ⟨vs, rfl, h⟩ ⟨vs', rfl, h'⟩ hn
  exact kdItS.eq_ _ _ _ d h h' hn
theorem kIt.mark : MarkC Tryz.prog kIt 18 := by
  rintro w lo hi v d k ⟨vs, fp, rfl, h, hf⟩ hn hk0 hk1
  refine (kdItS.mark _ _ d fp k h hn hk0 (by have := cntIt_wt d; have : kdItS.wt d ≤ 1048576 := hn; omega)).mono ?_
  rintro e w' ⟨rfl, ho, hg⟩
  exact ⟨rfl, ⟨vs, fp, rfl, ho, hf⟩, TchF.tch hg hf⟩
theorem kIt.fr_nil (w : World) (lo hi : Nat) : kIt.fr w lo hi (.slice none 0 0) [] := ⟨[.slice none 0 0], [], rfl, ⟨none, 0, rfl, LO.none_⟩, by simp⟩
/-- One mark of an item in a list of the call's own: where it lies, and what a store there leaves. -/
theorem LO.spotI {e : TypeId} {w : World} {A : Option Addr} {c : Nat} {xs : List ItD} {fp : List Nat} (h : LO kdItem e w A c xs fp) (k : Nat) (x : ItD) (hx : xs[k]? = some x) (j : Nat) (hj : j < x.2.1.length) :
    ∃ g A1 c1 gx c2, A = some ⟨g, 0, none⟩ ∧ g ∈ fp ∧ gx ∈ fp ∧ gx ≠ g ∧ w.cell? ⟨g, k * 3, none⟩ = some (.slice A1 x.1.length c1) ∧ w.cell? ⟨g, k * 3 + 1, none⟩ = some (.slice (some ⟨gx, 0, none⟩) x.2.1.length c2) ∧ w.cell? ⟨g, k * 3 + 2, none⟩ = some (.bool x.2.2) ∧ x.2.1.length ≤ c2 ∧ c2 ≤ 9223372036854775807 ∧
      w.cell? ⟨gx, j, none⟩ = some (.int .i64 (x.2.1.getD j 0)) ∧ w.frozen? ⟨gx, j, none⟩ = false ∧ ∀ z, LO kdItem e (w.setCell ⟨gx, j, none⟩ (.int .i64 z)) A c (xs.set k (x.1, x.2.1.set j z, x.2.2)) fp := by
  obtain ⟨g, cs, f, hat⟩ := h.at_ k x hx
  obtain ⟨v1, v2, f1, f2, hcs0, ⟨A1, c1, rfl, l1⟩, ⟨v3, v4, f3, f4, rfl, ⟨A2, c2, rfl, l2⟩, ⟨h4, rfl⟩, hf2, _⟩, hf, hnd⟩ := hat.own
  have h4 : v4 = [.bool x.2.2] := h4
  subst h4
  simp only [List.append_nil] at hf2
  subst hf2
  have hcs0 : cs = [.slice A1 x.1.length c1, .slice A2 x.2.1.length c2, .bool x.2.2] := hcs0
  subst hcs0
  subst hf
  obtain ⟨o2, hf2⟩ := l2.own
  obtain ⟨gx, rfl, _, _, hc⟩ := o2.pos (by omega)
  have hm : gx ∈ f2 := by rw [hf2]; simp
  have hdj : ∀ i ∈ f1, i ∉ f2 := by rw [List.nodup_append] at hnd; exact fun i hi hi' => hnd.2.2 i hi i hi' rfl
  refine ⟨g, A1, c1, gx, c2, hat.addr, hat.mem, (hat.sub gx (List.mem_append_right _ hm)).1, (hat.sub gx (List.mem_append_right _ hm)).2, hat.cell 0 _ rfl, hat.cell 1 _ rfl, hat.cell 2 _ rfl, hc, o2.capm, o2.cell j hj, o2.free j, fun z => ?_⟩
  refine hat.inplace _ _ ?_ ((TchF.set1 w _ _ hm).more (fun i hi => List.mem_append_right _ hi))
  have o3 := (o2.set j z).lo_
  have l1' : LO kdS 9 (w.setCell ⟨gx, j, none⟩ (.int .i64 z)) A1 c1 x.1 f1 := l1.keep (fun i hi => Below.heap_setCell _ _ _ _ (fun (e : i = gx) => hdj i hi (e ▸ hm)))
  have ho := kdItem.mkOwn (d := (x.1, x.2.1.set j z, x.2.2)) l1' (by rw [hf2]; exact o3) hdj
  simpa using ho
end Go.Proofs.YtcmoedjcokkdcaaGreat
