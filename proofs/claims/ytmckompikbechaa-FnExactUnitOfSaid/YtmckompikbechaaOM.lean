/- Marks laid into texts, items, reviews, sheets. -/
import Derived.Test.YtmckompikbechaaNK
import Derived.Laws.IdiomStrings
namespace Go.Proofs.Ytmckompikbechaa
open Go.RowKit Go.Sort
set_option linter.unusedVariables false

theorem flat_set1 {s : Nat} {css : List (List Value)} (h : ∀ cs ∈ css, cs.length = s) (k j : Nat) (cs : List Value) (hk : css[k]? = some cs) (hj : j < s) (u : Value) : css.flatten.set (k * s + j) u = (css.set k (cs.set j u)).flatten := by
  induction css generalizing k with
  | nil => simp at hk
  | cons c t ih =>
    have hc : c.length = s := h c (by simp)
    cases k with
    | zero =>
      simp at hk
      subst hk
      rw [Nat.zero_mul, Nat.zero_add, List.flatten_cons, List.set_append_left _ _ (by omega), List.set_cons_zero, List.flatten_cons]
    | succ k =>
      simp at hk
      have := ih (fun d hd => h d (by simp [hd])) k hk
      rw [List.flatten_cons, List.set_append_right _ _ (by rw [hc, Nat.add_mul]; omega), List.set_cons_succ, List.flatten_cons, ← this, hc]
      congr 2
      rw [Nat.add_mul]
      omega
section
variable {α : Type} {K : Kd α} {e : TypeId} {w w' : World} {c : Nat} {A : Option Addr} {xs : List α} {fp : List Nat}
/-- One cell of an element stored anew: the element's memory stays its own. -/
theorem LO.put (h : LO K e w A c xs fp) (k : Nat) (x : α) (hx : xs[k]? = some x) : ∃ g cs f, A = some ⟨g, 0, none⟩ ∧ K.own w cs x f ∧ (∀ i ∈ f, i ∈ fp ∧ i ≠ g) ∧ g ∈ fp ∧ g < w.heap.size ∧ (∀ j u, cs[j]? = some u → w.cell? ⟨g, k * K.size + j, none⟩ = some u) ∧ (∀ j, w.frozen? ⟨g, j, none⟩ = false) ∧
    ∀ (w' : World) (j : Nat) (u : Value) (x' : α), j < K.size → K.own w' (cs.set j u) x' f → TchF f w w' → LO K e (w'.setCell ⟨g, k * K.size + j, none⟩ u) A c (xs.set k x') fp := by
  obtain ⟨css, fps, hr, hl1, hl2, hown, hfp, hnd⟩ := id h
  have hk : k < xs.length := (List.getElem?_eq_some_iff.1 hx).1
  have hck : css[k]? = some css[k] := List.getElem?_eq_getElem (by omega)
  have hfk : fps[k]? = some fps[k] := List.getElem?_eq_getElem (by omega)
  have hall : ∀ cs ∈ css, cs.length = K.size := by
    intro cs hcs
    obtain ⟨i, hi, rfl⟩ := List.getElem_of_mem hcs
    exact K.rd_len (K.own_rd (hown i _ _ _ (List.getElem?_eq_getElem hi) (List.getElem?_eq_getElem (by omega)) (List.getElem?_eq_getElem (by omega))))
  have hA : ∃ g, A = some ⟨g, 0, none⟩ := by
    rcases hr.2 with ⟨_, h2⟩ | ⟨g, cap, cur, h1, _⟩
    · omega
    · simp only [Value.slice.injEq] at h1; exact ⟨g, h1.1⟩
  obtain ⟨g, rfl⟩ := hA
  have hfp' : fp = g :: fps.flatten := by rw [hfp]; rfl
  have hnd2 : g ∉ fps.flatten ∧ fps.flatten.Nodup := by rw [hfp'] at hnd; exact List.nodup_cons.1 hnd
  have hg : g < w.heap.size := h.lt g (by rw [hfp']; simp)
  have hsub : ∀ i ∈ fps[k], i ∈ fp ∧ i ≠ g := by
    intro i hi
    have hm : i ∈ fps.flatten := List.mem_flatten.2 ⟨_, List.getElem_mem (by omega), hi⟩
    exact ⟨by rw [hfp']; simp [hm], fun e => hnd2.1 (e ▸ hm)⟩
  refine ⟨g, css[k], fps[k], rfl, hown k _ x _ hck hx hfk, hsub, by rw [hfp']; simp, hg, ?_, fun j => World.ownsRow.frozenAt hr j, ?_⟩
  · intro j u hu
    have hj : j < K.size := by
      have := (List.getElem?_eq_some_iff.1 hu).1
      rw [hall _ (List.getElem_mem (by omega))] at this
      exact this
    have hlt : k * K.size + j < xs.length * K.size := by
      have : (k + 1) * K.size ≤ xs.length * K.size := Nat.mul_le_mul_right _ hk
      rw [Nat.add_mul] at this
      omega
    rw [World.ownsRow.cellAt hr (k * K.size + j) hlt, flatten_at hall k j _ hck hj, hu]
  · intro w' j u x' hj ho ht
    have hrow : w'.heap[g]? = w.heap[g]? := ht.block g hg (fun hm => (hsub g hm).2 rfl)
    have hr' := ownsRow_keep (w' := w') hr (fun p hp => by injection hp with hp; subst hp; exact hrow)
    have hst := (World.ownsRow.stored hr' (k * K.size + j) u).1
    rw [flat_set1 hall k j _ hck hj u] at hst
    have hblk : ∀ i, i ≠ g → (w'.setCell ⟨g, k * K.size + j, none⟩ u).heap[i]? = w'.heap[i]? := fun i hi => Below.heap_setCell _ _ _ _ hi
    refine ⟨css.set k (css[k].set j u), fps, by rw [List.length_set]; exact hst, by simpa using hl1, by simpa using hl2, ?_, hfp, hnd⟩
    intro i cs y f h1 h2 h3
    rw [List.getElem?_set] at h1 h2
    by_cases hki : k = i
    · subst hki
      rw [if_pos rfl, if_pos (by omega)] at h1 h2
      rw [hfk] at h3
      injection h1 with h1
      injection h2 with h2
      injection h3 with h3
      subst h1 h2 h3
      exact K.own_keep ho (fun i hi => hblk i (fun e => (hsub i hi).2 e))
    · rw [if_neg hki] at h1 h2
      have h9 := K.own_tchF (hown i cs y f h1 h2 h3) ht (nodup_flat_ne hnd2.2 h3 hfk (Ne.symm hki))
      refine K.own_keep h9 (fun q hq => hblk q ?_)
      rintro rfl
      exact hnd2.1 (List.mem_flatten.2 ⟨_, List.mem_of_getElem? h3, hq⟩)
end

def decD (k : Nat) : List UInt8 := if h : k = 0 then [] else decD (k / 10) ++ [UInt8.ofNat (48 + k % 10)]
termination_by k
decreasing_by omega
theorem decD_pos {k : Nat} (h : 0 < k) : decD k = decD (k / 10) ++ [UInt8.ofNat (48 + k % 10)] := by
  rw [decD, dif_neg (by omega)]
theorem decD_zero : decD 0 = [] := by rw [decD, dif_pos rfl]
theorem markD_dec : ∀ (f k : Nat), k < 10 ^ f → markD f k = decD k
  | 0, k, h => by
    have : k = 0 := by simpa using h
    subst this; rw [decD_zero]; rfl
  | f + 1, k, h => by
    unfold markD
    by_cases hk : k = 0
    · subst hk; rw [if_pos rfl, decD_zero]
    · rw [if_neg hk, decD_pos (by omega), markD_dec f (k / 10) (by rw [Nat.pow_succ] at h; omega)]
theorem markT_pos {k : Nat} (h : 0 < k) (h1 : k ≤ 8589934592) : markT k = 109 :: decD k := by
  unfold markT
  have h2 : k < 10 ^ 20 := Nat.lt_of_le_of_lt h1 (by decide)
  rw [if_neg (by omega), Int.toNat_natCast, markD_dec 20 k h2]
theorem decD_len : ∀ (f k : Nat), k < 10 ^ f → (decD k).length ≤ f
  | 0, k, h => by
    have : k = 0 := by simpa using h
    subst this; rw [decD_zero]; simp
  | f + 1, k, h => by
    by_cases hk : k = 0
    · subst hk; rw [decD_zero]; simp
    · rw [decD_pos (by omega), List.length_append]
      have := decD_len f (k / 10) (by rw [Nat.pow_succ] at h; omega)
      simp
      omega
theorem bs_app (x y : List UInt8) : bs x ++ bs y = bs (x ++ y) := by
  unfold bs
  rw [ByteArray.mk_append_mk]

set_option maxRecDepth 100000 in
set_option maxHeartbeats 1000000 in
theorem l.markText_any (k : Nat) (w : World) (hk : k ≤ 8589934592) : Calls Try.prog 121 #[.int .i64 k] w fun e w' => e = .returned (.string (bs (markT k))) ∧ Ext w w' := by
  by_cases h0 : k = 0
  · subst h0
    have hm : Hid (bs (markT ((0 : Nat) : Int)) = ⟨#[109, 48]⟩) := rfl
    rw [hm.out]
    go_enter Try.func121, Try.ntmps121
    go_wp2
    go_ret
    exact ⟨rfl, Ext.refl _⟩
  · have hm : Hid (bs (markT (k : Int)) = bs (109 :: decD k)) := by show _ = _; rw [markT_pos (by omega) hk]
    rw [hm.out]
    have hl := decD_len 20 k (Nat.lt_of_le_of_lt hk (by decide))
    have HL := hide hl
    obtain ⟨T, hT⟩ : ∃ T, Hid (decD k = T) := ⟨_, rfl⟩
    rw [hT.out] at HL ⊢
    clear hl
    have hk0 : 0 < k := by omega
    clear h0
    go_enter Try.func121, Try.ntmps121
    go_wp2
    go_loopw [0, 3] (fun q o wr => ∃ (kk : Nat) (l : List UInt8), kk ≤ k ∧ q = .int .i64 kk ∧ o = .string (bs l) ∧ decD kk ++ l = T ∧ Ext w wr) (fun q _ _ => (intOf q).toNat)
    case atStart => exact ⟨k, [], Nat.le_refl _, rfl, rfl, by rw [List.append_nil]; exact hT.out, Ext.refl _⟩
    case round =>
      obtain ⟨kk, l, hkk, rfl, rfl, hd, hx⟩ := hrel
      have HD := hide hd
      have HX := hide hx
      clear hd hx
      by_cases hlt : 0 < kk
      · have b1 : kk % 10 < 10 := Nat.mod_lt _ (by omega)
        obtain ⟨dg, hdg⟩ : ∃ dg : UInt8, Hid (UInt8.ofNat (48 + kk % 10) = dg) := ⟨_, rfl⟩
        have hdn : (48 : Int) + (kk : Int) % 10 = (dg.toNat : Int) := by
          rw [← hdg.out, UInt8.toNat_ofNat']
          have : (48 + kk % 10) % 2 ^ 8 = 48 + kk % 10 := Nat.mod_eq_of_lt (by omega)
          rw [this]
          omega
        have hD1 : Hid (decD (kk / 10) ++ (dg :: l) = T) := by show _ = _; rw [← HD.out, decD_pos hlt, hdg.out]; simp
        have hll : l.length ≤ 20 := by have h1 := HL.out; rw [← HD.out, List.length_append] at h1; omega
        have hz1 : (bs l).size = l.length := bs_size l
        have hconv : (convert 146 9 (.slice (some ⟨wr.heap.size, 0, none⟩) 1 1)).run Try.prog (wr.alloc (.cells #[.int .u8 (dg.toNat : Int)] 5)) = .ok (.string (bs [dg])) (wr.alloc (.cells #[.int .u8 (dg.toNat : Int)] 5)) :=
          run_convert_bytes_back _ _ _ 5 ⟨wr.heap.size, 0, none⟩ 1 [dg] Try.underlying146 Try.underlying5 Try.underlying9 (fun j hj => by
            have hj0 : j = 0 := by simp at hj; omega
            subst hj0
            simp [World.cell?_alloc_at, Addr.add])
        have hadd : ∀ w', (Op.stringOp .add (bs [dg]) (bs l)).run Try.prog w' = .ok (.string (bs (dg :: l))) w' := fun w' => by
          rw [run_string_add_sum w' (bs [dg]) (bs l) (by rw [bs_size, bs_size]; simp; omega), bs_app]; rfl
        go_wp2
        go_roundw
        case rel => exact ⟨kk / 10, dg :: l, by omega, by go_num, rfl, hD1.out, HX.out.trans (Ext.alloc _ _)⟩
        case measure => simp [intOf]; omega
      · have e0 : kk = 0 := by omega
        subst e0
        have hl : Hid (l = T) := by have h1 := HD.out; rw [decD_zero] at h1; exact h1
        have hll : l.length ≤ 20 := by rw [hl.out]; exact HL.out
        have hadd : ∀ w', (Op.stringOp .add ⟨#[109]⟩ (bs l)).run Try.prog w' = .ok (.string (bs (109 :: l))) w' := fun w' => by
          have h1 := run_string_add_sum (P := Try.prog) w' (bs [109]) (bs l) (by rw [bs_size, bs_size]; simp; omega)
          rw [bs_app] at h1
          exact h1
        go_wp2
        go_ret
        exact ⟨by rw [← hl.out]; rfl, HX.out⟩
end Go.Proofs.Ytmckompikbechaa
