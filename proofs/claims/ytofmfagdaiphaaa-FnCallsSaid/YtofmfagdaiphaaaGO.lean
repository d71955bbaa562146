/- GO: OM, ON, OP in one text. -/
import Derived.Test.YtofmfagdaiphaaaGN
import Derived.Laws.IdiomStrings
/- Marks laid into texts, items, reviews, sheets. -/
namespace Go.Proofs.Ytofmfagdaiphaaa
open Go.RowKit Go.Sort
set_option linter.unusedVariables false

theorem flat_set1 {s : Nat} {css : List (List Value)} (h : ∀ cs ∈ css, cs.length = s) (k j : Nat) (cs : List Value) (hk : css[k]? = some cs) (hj : j < s) (u : Value) : css.flatten.set (k * s + j) u = (css.set k (cs.set j u)).flatten := by
  induction css generalizing k with
  | nil => simp at hk
  | cons c t ih =>
    have hc : c.length = s := h c (by simp)
    cases k with
    | zero =>
      simp at hk
      subst hk
      rw [Nat.zero_mul, Nat.zero_add, List.flatten_cons, List.set_append_left _ _ (by omega), List.set_cons_zero, List.flatten_cons]
    | succ k =>
      simp at hk
      have := ih (fun d hd => h d (by simp [hd])) k hk
      rw [List.flatten_cons, List.set_append_right _ _ (by rw [hc, Nat.add_mul]; omega), List.set_cons_succ, List.flatten_cons, ← this, hc]
      congr 2
      rw [Nat.add_mul]
      omega
section
variable {α : Type} {K : Kd α} {e : TypeId} {w w' : World} {c : Nat} {A : Option Addr} {xs : List α} {fp : List Nat}
/-- One cell of an element stored anew: the element's memory stays its own. -/
theorem LO.put (h : LO K e w A c xs fp) (k : Nat) (x : α) (hx : xs[k]? = some x) : ∃ g cs f, A = some ⟨g, 0, none⟩ ∧ K.own w cs x f ∧ (∀ i ∈ f, i ∈ fp ∧ i ≠ g) ∧ g ∈ fp ∧ g < w.heap.size ∧ (∀ j u, cs[j]? = some u → w.cell? ⟨g, k * K.size + j, none⟩ = some u) ∧ (∀ j, w.frozen? ⟨g, j, none⟩ = false) ∧
    ∀ (w' : World) (j : Nat) (u : Value) (x' : α), j < K.size → K.own w' (cs.set j u) x' f → TchF f w w' → LO K e (w'.setCell ⟨g, k * K.size + j, none⟩ u) A c (xs.set k x') fp := by
  obtain ⟨css, fps, hr, hl1, hl2, hown, hfp, hnd⟩ := id h
  have hk : k < xs.length := (List.getElem?_eq_some_iff.1 hx).1
  have hck : css[k]? = some css[k] := List.getElem?_eq_getElem (by omega)
  have hfk : fps[k]? = some fps[k] := List.getElem?_eq_getElem (by omega)
  have hall : ∀ cs ∈ css, cs.length = K.size := by
    intro cs hcs
    obtain ⟨i, hi, rfl⟩ := List.getElem_of_mem hcs
    exact K.rd_len (K.own_rd (hown i _ _ _ (List.getElem?_eq_getElem hi) (List.getElem?_eq_getElem (by omega)) (List.getElem?_eq_getElem (by omega))))
  have hA : ∃ g, A = some ⟨g, 0, none⟩ := by
    rcases hr.2 with ⟨_, h2⟩ | ⟨g, cap, cur, h1, _⟩
    · omega
    · simp only [Value.slice.injEq] at h1; exact ⟨g, h1.1⟩
  obtain ⟨g, rfl⟩ := hA
  have hfp' : fp = g :: fps.flatten := by rw [hfp]; rfl
  have hnd2 : g ∉ fps.flatten ∧ fps.flatten.Nodup := by rw [hfp'] at hnd; exact List.nodup_cons.1 hnd
  have hg : g < w.heap.size := h.lt g (by rw [hfp']; simp)
  have hsub : ∀ i ∈ fps[k], i ∈ fp ∧ i ≠ g := by
    intro i hi
    have hm : i ∈ fps.flatten := List.mem_flatten.2 ⟨_, List.getElem_mem (by omega), hi⟩
    exact ⟨by rw [hfp']; simp [hm], fun e => hnd2.1 (e ▸ hm)⟩
  refine ⟨g, css[k], fps[k], rfl, hown k _ x _ hck hx hfk, hsub, by rw [hfp']; simp, hg, ?_, fun j => World.ownsRow.frozenAt hr j, ?_⟩
  · intro j u hu
    have hj : j < K.size := by
      have := (List.getElem?_eq_some_iff.1 hu).1
      rw [hall _ (List.getElem_mem (by omega))] at this
      exact this
    have hlt : k * K.size + j < xs.length * K.size := by
      have : (k + 1) * K.size ≤ xs.length * K.size := Nat.mul_le_mul_right _ hk
      rw [Nat.add_mul] at this
      omega
    rw [World.ownsRow.cellAt hr (k * K.size + j) hlt, flatten_at hall k j _ hck hj, hu]
  · intro w' j u x' hj ho ht
    have hrow : w'.heap[g]? = w.heap[g]? := ht.block g hg (fun hm => (hsub g hm).2 rfl)
    have hr' := ownsRow_keep (w' := w') hr (fun p hp => by injection hp with hp; subst hp; exact hrow)
    have hst := (World.ownsRow.stored hr' (k * K.size + j) u).1
    rw [flat_set1 hall k j _ hck hj u] at hst
    have hblk : ∀ i, i ≠ g → (w'.setCell ⟨g, k * K.size + j, none⟩ u).heap[i]? = w'.heap[i]? := fun i hi => Below.heap_setCell _ _ _ _ hi
    refine ⟨css.set k (css[k].set j u), fps, by rw [List.length_set]; exact hst, by simpa using hl1, by simpa using hl2, ?_, hfp, hnd⟩
    intro i cs y f h1 h2 h3
    rw [List.getElem?_set] at h1 h2
    by_cases hki : k = i
    · subst hki
      rw [if_pos rfl, if_pos (by omega)] at h1 h2
      rw [hfk] at h3
      injection h1 with h1
      injection h2 with h2
      injection h3 with h3
      subst h1 h2 h3
      exact K.own_keep ho (fun i hi => hblk i (fun e => (hsub i hi).2 e))
    · rw [if_neg hki] at h1 h2
      have h9 := K.own_tchF (hown i cs y f h1 h2 h3) ht (nodup_flat_ne hnd2.2 h3 hfk (Ne.symm hki))
      refine K.own_keep h9 (fun q hq => hblk q ?_)
      rintro rfl
      exact hnd2.1 (List.mem_flatten.2 ⟨_, List.mem_of_getElem? h3, hq⟩)
end

def decD (k : Nat) : List UInt8 := if h : k = 0 then [] else decD (k / 10) ++ [UInt8.ofNat (48 + k % 10)]
termination_by k
decreasing_by omega
theorem decD_pos {k : Nat} (h : 0 < k) : decD k = decD (k / 10) ++ [UInt8.ofNat (48 + k % 10)] := by
  rw [decD, dif_neg (by omega)]
theorem decD_zero : decD 0 = [] := by rw [decD, dif_pos rfl]
theorem markD_dec : ∀ (f k : Nat), k < 10 ^ f → markD f k = decD k
  | 0, k, h => by
    have : k = 0 := by simpa using h
    subst this; rw [decD_zero]; rfl
  | f + 1, k, h => by
    unfold markD
    by_cases hk : k = 0
    · subst hk; rw [if_pos rfl, decD_zero]
    · rw [if_neg hk, decD_pos (by omega), markD_dec f (k / 10) (by rw [Nat.pow_succ] at h; omega)]
theorem markT_pos {k : Nat} (h : 0 < k) (h1 : k ≤ 8589934592) : markT k = 109 :: decD k := by
  unfold markT
  have h2 : k < 10 ^ 20 := Nat.lt_of_le_of_lt h1 (by decide)
  rw [if_neg (by omega), Int.toNat_natCast, markD_dec 20 k h2]
theorem decD_len : ∀ (f k : Nat), k < 10 ^ f → (decD k).length ≤ f
  | 0, k, h => by
    have : k = 0 := by simpa using h
    subst this; rw [decD_zero]; simp
  | f + 1, k, h => by
    by_cases hk : k = 0
    · subst hk; rw [decD_zero]; simp
    · rw [decD_pos (by omega), List.length_append]
      have := decD_len f (k / 10) (by rw [Nat.pow_succ] at h; omega)
      simp
      omega
theorem bs_app (x y : List UInt8) : bs x ++ bs y = bs (x ++ y) := by
  unfold bs
  rw [ByteArray.mk_append_mk]

end Go.Proofs.Ytofmfagdaiphaaa

/- Marks laid into lists of texts, items, reviews, votes; into sheets. -/
namespace Go.Proofs.Ytofmfagdaiphaaa
open Go.RowKit Go.Sort
set_option linter.unusedVariables false

theorem TchF.set1 {fp : List Nat} (w : World) (p : Addr) (v : Value) (hp : p.block ∈ fp) : TchF fp w (w.setCell p v) := by
  have h := Below.setCell (Below.refl 0 w) (Nat.zero_le p.block) v
  exact ⟨h.os, h.tape, h.output, h.size, fun k hk hr => Below.heap_setCell _ _ _ _ (fun e => hr (e ▸ hp))⟩
theorem TchF.cell {fp : List Nat} {w w' : World} (h : TchF fp w w') {p : Addr} (hp : p.block < w.heap.size) (hn : p.block ∉ fp) : w'.cell? p = w.cell? p := World.cell?_of_block (w := w) (h.block _ hp hn)
theorem TchF.free {fp : List Nat} {w w' : World} (h : TchF fp w w') {p : Addr} (hp : p.block < w.heap.size) (hn : p.block ∉ fp) : w'.frozen? p = w.frozen? p := World.frozen?_of_block (w := w) (h.block _ hp hn)
theorem markT_len (k : Int) (h : k ≤ 8589934592) : (markT k).length ≤ 30 := by
  unfold markT
  by_cases h0 : k ≤ 0
  · rw [if_pos h0]; decide
  · rw [if_neg h0, markD_dec 20 k.toNat (Nat.lt_of_le_of_lt (show k.toNat ≤ 8589934592 by omega) (by decide))]
    have := decD_len 20 k.toNat (Nat.lt_of_le_of_lt (show k.toNat ≤ 8589934592 by omega) (by decide))
    simp
    omega

end Go.Proofs.Ytofmfagdaiphaaa

/- Sheets and lists of lists as the laws that mark them hand them about. -/
namespace Go.Proofs.Ytofmfagdaiphaaa
open Go.RowKit Go.Sort
set_option linter.unusedVariables false

theorem cntL_le {α : Type} (K : Kd α) (m : Nat) (h : ∀ x, K.cnt x ≤ m * (1 + K.wt x)) (xs : List α) : cntL K xs ≤ m * wtL K xs := by
  induction xs with
  | nil => exact Nat.zero_le _
  | cons x t ih =>
    have h1 := h x
    show K.cnt x + cntL K t ≤ m * (1 + K.wt x + wtL K t)
    rw [Nat.mul_add]
    omega
theorem cntLL_wt (xs : List (List Int)) : kdLL.cnt xs ≤ kdLL.wt xs := by
  have := cntL_le kdL 1 (fun x => by
    have h1 : kdL.cnt x = x.length := cntL_int x
    have h2 : kdL.wt x = x.length := wtL_int x
    omega) xs
  have e1 : kdLL.cnt xs = cntL kdL xs := rfl
  have e2 : kdLL.wt xs = wtL kdL xs := rfl
  omega
theorem cntSh_wt (d : ShD) : kdSh.cnt d ≤ 3 * kdSh.wt d := by
  have h1 : kdItS.cnt d.1 ≤ 1 * kdItS.wt d.1 := cntL_le kdItem 1 (fun x => by
    have e1 : kdItem.cnt x = kdSS.cnt x.1 + (kdL.cnt x.2.1 + 1) := rfl
    have e2 : kdSS.cnt x.1 ≤ 1 * kdSS.wt x.1 := cntL_le kdS 1 (fun y => by have : kdS.cnt y = 1 := rfl; omega) x.1
    have e3 : kdL.cnt x.2.1 = x.2.1.length := cntL_int _
    have e4 : kdL.wt x.2.1 = x.2.1.length := wtL_int _
    rw [kdItem.wt_eq]
    omega) d.1
  have h2 : kdLLL.cnt d.2.1 ≤ 1 * kdLLL.wt d.2.1 := cntL_le kdLL 1 (fun x => by have := cntLL_wt x; omega) d.2.1
  have h3 : kdRvS.cnt d.2.2 ≤ 3 * kdRvS.wt d.2.2 := cntL_le kdRv 3 (fun x => by have : kdRv.cnt x = 3 := rfl; omega) d.2.2
  have e : kdSh.cnt d = kdItS.cnt d.1 + (kdLLL.cnt d.2.1 + kdRvS.cnt d.2.2) := rfl
  rw [kdSh.wt_eq]
  omega
/-- Sheets, with their marks. -/
def kSm : Kind ShD := { kSh with
  mrk := kdSh.mrk
  cnt := kdSh.cnt
  ok_cnt := fun {d} h => by have h1 := cntSh_wt d; have h2 : kdSh.wt d ≤ 1048576 := h; omega }
def kSm.wt (d : ShD) : Nat := kdSh.wt d
theorem kSm.ok_of {d : ShD} (h : ¬ 1048576 < kSm.wt d) : kSm.ok d := Nat.le_of_not_lt h
theorem kSm.shape {w : World} {v : Value} {d : ShD} (h : kSm.rd w v d) : ∃ A n c A' n' c' A'' n'' c'', v = .agg #[.slice A n c, .slice A' n' c', .slice A'' n'' c''] := kSh.shape h
/-- Lists of lists of numbers. -/
def kII : Kind (List (List Int)) where
  rd w v d := ∃ vs, v = kdLL.val vs ∧ kdLL.rd w w.heap.size vs d
  fr w lo hi v d := ∃ vs fp, v = kdLL.val vs ∧ kdLL.own w vs d fp ∧ (∀ i ∈ fp, lo ≤ i ∧ i < hi)
  ok d := kdLL.wt d ≤ 1048576
  mrk := kdLL.mrk
  cnt := kdLL.cnt
  rd_ext := by
    rintro w w' v d ⟨vs, rfl, h⟩ hx
    exact ⟨vs, rfl, kdLL.rd_more (kdLL.rd_ext h hx (Nat.le_refl _)) hx.size⟩
  fr_rd := by
    rintro w lo hi v d ⟨vs, fp, rfl, h, _⟩
    exact ⟨vs, rfl, kdLL.own_rd h⟩
  fr_tch := by
    rintro w w' lo hi lo' hi' v d ⟨vs, fp, rfl, h, hf⟩ k hd
    refine ⟨vs, fp, rfl, kdLL.own_keep h (fun i hi' => k.block i (kdLL.own_lt h i hi') ?_), hf⟩
    have := hf i hi'
    omega
  ok_cnt := fun {d} h => Nat.le_trans (Nat.le_trans (cntLL_wt d) h) (by decide)
theorem kII.of_LO {w : World} {A : Option Addr} {c lo n : Nat} {xs : List (List Int)} {fp : List Nat} (h : LO kdL 42 w A c xs fp) (hf : ∀ i ∈ fp, lo ≤ i) (hn : n = xs.length) : kII.fr w lo w.heap.size (.slice A n c) xs := by
  subst hn
  exact ⟨[.slice A xs.length c], fp, rfl, ⟨A, c, rfl, h⟩, fun i hi => ⟨hf i hi, h.lt i hi⟩⟩
theorem kII.fr_nil (w : World) (lo hi : Nat) : kII.fr w lo hi (.slice none 0 0) [] := ⟨[.slice none 0 0], [], rfl, ⟨none, 0, rfl, LO.none_⟩, by simp⟩
end Go.Proofs.Ytofmfagdaiphaaa
