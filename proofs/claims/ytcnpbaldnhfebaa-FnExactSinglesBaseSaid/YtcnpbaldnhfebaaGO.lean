/- GO: OM, ON, OP in one text. -/
import Derived.Test.YtcnpbaldnhfebaaGN
import Derived.Laws.IdiomStrings
/- Marks laid into texts, items, reviews, sheets. -/
namespace Go.Proofs.Ytcnpbaldnhfebaa
open Go.RowKit Go.Sort
set_option linter.unusedVariables false

theorem flat_set1 {s : Nat} {css : List (List Value)} (h : ∀ cs ∈ css, cs.length = s) (k j : Nat) (cs : List Value) (hk : css[k]? = some cs) (hj : j < s) (u : Value) : css.flatten.set (k * s + j) u = (css.set k (cs.set j u)).flatten := by
  induction css generalizing k with
  | nil => simp at hk
  | cons c t ih =>
    have hc : c.length = s := h c (by simp)
    cases k with
    | zero =>
      simp at hk
      subst hk
      rw [Nat.zero_mul, Nat.zero_add, List.flatten_cons, List.set_append_left _ _ (by omega), List.set_cons_zero, List.flatten_cons]
    | succ k =>
      simp at hk
      have := ih (fun d hd => h d (by simp [hd])) k hk
      rw [List.flatten_cons, List.set_append_right _ _ (by rw [hc, Nat.add_mul]; omega), List.set_cons_succ, List.flatten_cons, ← this, hc]
      congr 2
      rw [Nat.add_mul]
      omega
section
variable {α : Type} {K : Kd α} {e : TypeId} {w w' : World} {c : Nat} {A : Option Addr} {xs : List α} {fp : List Nat}
/-- One cell of an element stored anew: the element's memory stays its own. -/
theorem LO.put (h : LO K e w A c xs fp) (k : Nat) (x : α) (hx : xs[k]? = some x) : ∃ g cs f, A = some ⟨g, 0, none⟩ ∧ K.own w cs x f ∧ (∀ i ∈ f, i ∈ fp ∧ i ≠ g) ∧ g ∈ fp ∧ g < w.heap.size ∧ (∀ j u, cs[j]? = some u → w.cell? ⟨g, k * K.size + j, none⟩ = some u) ∧ (∀ j, w.frozen? ⟨g, j, none⟩ = false) ∧
    ∀ (w' : World) (j : Nat) (u : Value) (x' : α), j < K.size → K.own w' (cs.set j u) x' f → TchF f w w' → LO K e (w'.setCell ⟨g, k * K.size + j, none⟩ u) A c (xs.set k x') fp := by
  obtain ⟨css, fps, hr, hl1, hl2, hown, hfp, hnd⟩ := id h
  have hk : k < xs.length := (List.getElem?_eq_some_iff.1 hx).1
  have hck : css[k]? = some css[k] := List.getElem?_eq_getElem (by omega)
  have hfk : fps[k]? = some fps[k] := List.getElem?_eq_getElem (by omega)
  have hall : ∀ cs ∈ css, cs.length = K.size := by
    intro cs hcs
    obtain ⟨i, hi, rfl⟩ := List.getElem_of_mem hcs
    exact K.rd_len (K.own_rd (hown i _ _ _ (List.getElem?_eq_getElem hi) (List.getElem?_eq_getElem (by omega)) (List.getElem?_eq_getElem (by omega))))
  have hA : ∃ g, A = some ⟨g, 0, none⟩ := by
    rcases hr.2 with ⟨_, h2⟩ | ⟨g, cap, cur, h1, _⟩
    · omega
    · simp only [Value.slice.injEq] at h1; exact ⟨g, h1.1⟩
  obtain ⟨g, rfl⟩ := hA
  have hfp' : fp = g :: fps.flatten := by rw [hfp]; rfl
  have hnd2 : g ∉ fps.flatten ∧ fps.flatten.Nodup := by rw [hfp'] at hnd; exact List.nodup_cons.1 hnd
  have hg : g < w.heap.size := h.lt g (by rw [hfp']; simp)
  have hsub : ∀ i ∈ fps[k], i ∈ fp ∧ i ≠ g := by
    intro i hi
    have hm : i ∈ fps.flatten := List.mem_flatten.2 ⟨_, List.getElem_mem (by omega), hi⟩
    exact ⟨by rw [hfp']; simp [hm], fun e => hnd2.1 (e ▸ hm)⟩
  refine ⟨g, css[k], fps[k], rfl, hown k _ x _ hck hx hfk, hsub, by rw [hfp']; simp, hg, ?_, fun j => World.ownsRow.frozenAt hr j, ?_⟩
  · intro j u hu
    have hj : j < K.size := by
      have := (List.getElem?_eq_some_iff.1 hu).1
      rw [hall _ (List.getElem_mem (by omega))] at this
      exact this
    have hlt : k * K.size + j < xs.length * K.size := by
      have : (k + 1) * K.size ≤ xs.length * K.size := Nat.mul_le_mul_right _ hk
      rw [Nat.add_mul] at this
      omega
    rw [World.ownsRow.cellAt hr (k * K.size + j) hlt, flatten_at hall k j _ hck hj, hu]
  · intro w' j u x' hj ho ht
    have hrow : w'.heap[g]? = w.heap[g]? := ht.block g hg (fun hm => (hsub g hm).2 rfl)
    have hr' := ownsRow_keep (w' := w') hr (fun p hp => by injection hp with hp; subst hp; exact hrow)
    have hst := (World.ownsRow.stored hr' (k * K.size + j) u).1
    rw [flat_set1 hall k j _ hck hj u] at hst
    have hblk : ∀ i, i ≠ g → (w'.setCell ⟨g, k * K.size + j, none⟩ u).heap[i]? = w'.heap[i]? := fun i hi => Below.heap_setCell _ _ _ _ hi
    refine ⟨css.set k (css[k].set j u), fps, by rw [List.length_set]; exact hst, by simpa using hl1, by simpa using hl2, ?_, hfp, hnd⟩
    intro i cs y f h1 h2 h3
    rw [List.getElem?_set] at h1 h2
    by_cases hki : k = i
    · subst hki
      rw [if_pos rfl, if_pos (by omega)] at h1 h2
      rw [hfk] at h3
      injection h1 with h1
      injection h2 with h2
      injection h3 with h3
      subst h1 h2 h3
      exact K.own_keep ho (fun i hi => hblk i (fun e => (hsub i hi).2 e))
    · rw [if_neg hki] at h1 h2
      have h9 := K.own_tchF (hown i cs y f h1 h2 h3) ht (nodup_flat_ne hnd2.2 h3 hfk (Ne.symm hki))
      refine K.own_keep h9 (fun q hq => hblk q ?_)
      rintro rfl
      exact hnd2.1 (List.mem_flatten.2 ⟨_, List.mem_of_getElem? h3, hq⟩)
end

def decD (k : Nat) : List UInt8 := if h : k = 0 then [] else decD (k / 10) ++ [UInt8.ofNat (48 + k % 10)]
termination_by k
decreasing_by omega
theorem decD_pos {k : Nat} (h : 0 < k) : decD k = decD (k / 10) ++ [UInt8.ofNat (48 + k % 10)] := by
  rw [decD, dif_neg (by omega)]
theorem decD_zero : decD 0 = [] := by rw [decD, dif_pos rfl]
theorem markD_dec : ∀ (f k : Nat), k < 10 ^ f → markD f k = decD k
  | 0, k, h => by
    have : k = 0 := by simpa using h
    subst this; rw [decD_zero]; rfl
  | f + 1, k, h => by
    unfold markD
    by_cases hk : k = 0
    · subst hk; rw [if_pos rfl, decD_zero]
    · rw [if_neg hk, decD_pos (by omega), markD_dec f (k / 10) (by rw [Nat.pow_succ] at h; omega)]
theorem markT_pos {k : Nat} (h : 0 < k) (h1 : k ≤ 8589934592) : markT k = 109 :: decD k := by
  unfold markT
  have h2 : k < 10 ^ 20 := Nat.lt_of_le_of_lt h1 (by decide)
  rw [if_neg (by omega), Int.toNat_natCast, markD_dec 20 k h2]
theorem decD_len : ∀ (f k : Nat), k < 10 ^ f → (decD k).length ≤ f
  | 0, k, h => by
    have : k = 0 := by simpa using h
    subst this; rw [decD_zero]; simp
  | f + 1, k, h => by
    by_cases hk : k = 0
    · subst hk; rw [decD_zero]; simp
    · rw [decD_pos (by omega), List.length_append]
      have := decD_len f (k / 10) (by rw [Nat.pow_succ] at h; omega)
      simp
      omega
theorem bs_app (x y : List UInt8) : bs x ++ bs y = bs (x ++ y) := by
  unfold bs
  rw [ByteArray.mk_append_mk]

set_option maxRecDepth 100000 in
set_option maxHeartbeats 1000000 in
theorem l.markText_any (k : Nat) (w : World) (hk : k ≤ 8589934592) : Calls Try.prog 57 #[.int .i64 k] w fun e w' => e = .returned (.string (bs (markT k))) ∧ Ext w w' := by
  by_cases h0 : k = 0
  · subst h0
    have hm : Hid (bs (markT ((0 : Nat) : Int)) = ⟨#[109, 48]⟩) := rfl
    rw [hm.out]
    go_enter Try.func57, Try.ntmps57
    go_wp2
    go_ret
    exact ⟨rfl, Ext.refl _⟩
  · have hm : Hid (bs (markT (k : Int)) = bs (109 :: decD k)) := by show _ = _; rw [markT_pos (by omega) hk]
    rw [hm.out]
    have hl := decD_len 20 k (Nat.lt_of_le_of_lt hk (by decide))
    have HL := hide hl
    obtain ⟨T, hT⟩ : ∃ T, Hid (decD k = T) := ⟨_, rfl⟩
    rw [hT.out] at HL ⊢
    clear hl
    have hk0 : 0 < k := by omega
    clear h0
    go_enter Try.func57, Try.ntmps57
    go_wp2
    go_loopw [0, 3] (fun q o wr => ∃ (kk : Nat) (l : List UInt8), kk ≤ k ∧ q = .int .i64 kk ∧ o = .string (bs l) ∧ decD kk ++ l = T ∧ Ext w wr) (fun q _ _ => (intOf q).toNat)
    case atStart => exact ⟨k, [], Nat.le_refl _, rfl, rfl, by rw [List.append_nil]; exact hT.out, Ext.refl _⟩
    case round =>
      obtain ⟨kk, l, hkk, rfl, rfl, hd, hx⟩ := hrel
      have HD := hide hd
      have HX := hide hx
      clear hd hx
      by_cases hlt : 0 < kk
      · have b1 : kk % 10 < 10 := Nat.mod_lt _ (by omega)
        obtain ⟨dg, hdg⟩ : ∃ dg : UInt8, Hid (UInt8.ofNat (48 + kk % 10) = dg) := ⟨_, rfl⟩
        have hdn : (48 : Int) + (kk : Int) % 10 = (dg.toNat : Int) := by
          rw [← hdg.out, UInt8.toNat_ofNat']
          have : (48 + kk % 10) % 2 ^ 8 = 48 + kk % 10 := Nat.mod_eq_of_lt (by omega)
          rw [this]
          omega
        have hD1 : Hid (decD (kk / 10) ++ (dg :: l) = T) := by show _ = _; rw [← HD.out, decD_pos hlt, hdg.out]; simp
        have hll : l.length ≤ 20 := by have h1 := HL.out; rw [← HD.out, List.length_append] at h1; omega
        have hz1 : (bs l).size = l.length := bs_size l
        have hconv : (convert 89 9 (.slice (some ⟨wr.heap.size, 0, none⟩) 1 1)).run Try.prog (wr.alloc (.cells #[.int .u8 (dg.toNat : Int)] 5)) = .ok (.string (bs [dg])) (wr.alloc (.cells #[.int .u8 (dg.toNat : Int)] 5)) :=
          run_convert_bytes_back _ _ _ 5 ⟨wr.heap.size, 0, none⟩ 1 [dg] Try.underlying89 Try.underlying5 Try.underlying9 (fun j hj => by
            have hj0 : j = 0 := by simp at hj; omega
            subst hj0
            simp [World.cell?_alloc_at, Addr.add])
        have hadd : ∀ w', (Op.stringOp .add (bs [dg]) (bs l)).run Try.prog w' = .ok (.string (bs (dg :: l))) w' := fun w' => by
          rw [run_string_add_sum w' (bs [dg]) (bs l) (by rw [bs_size, bs_size]; simp; omega), bs_app]; rfl
        go_wp2
        go_roundw
        case rel => exact ⟨kk / 10, dg :: l, by omega, by go_num, rfl, hD1.out, HX.out.trans (Ext.alloc _ _)⟩
        case measure => simp [intOf]; omega
      · have e0 : kk = 0 := by omega
        subst e0
        have hl : Hid (l = T) := by have h1 := HD.out; rw [decD_zero] at h1; exact h1
        have hll : l.length ≤ 20 := by rw [hl.out]; exact HL.out
        have hadd : ∀ w', (Op.stringOp .add ⟨#[109]⟩ (bs l)).run Try.prog w' = .ok (.string (bs (109 :: l))) w' := fun w' => by
          have h1 := run_string_add_sum (P := Try.prog) w' (bs [109]) (bs l) (by rw [bs_size, bs_size]; simp; omega)
          rw [bs_app] at h1
          exact h1
        go_wp2
        go_ret
        exact ⟨by rw [← hl.out]; rfl, HX.out⟩
end Go.Proofs.Ytcnpbaldnhfebaa

/- Marks laid into lists of texts, items, reviews, votes; into sheets. -/
namespace Go.Proofs.Ytcnpbaldnhfebaa
open Go.RowKit Go.Sort
set_option linter.unusedVariables false

theorem TchF.set1 {fp : List Nat} (w : World) (p : Addr) (v : Value) (hp : p.block ∈ fp) : TchF fp w (w.setCell p v) := by
  have h := Below.setCell (Below.refl 0 w) (Nat.zero_le p.block) v
  exact ⟨h.os, h.tape, h.output, h.size, fun k hk hr => Below.heap_setCell _ _ _ _ (fun e => hr (e ▸ hp))⟩
theorem TchF.cell {fp : List Nat} {w w' : World} (h : TchF fp w w') {p : Addr} (hp : p.block < w.heap.size) (hn : p.block ∉ fp) : w'.cell? p = w.cell? p := World.cell?_of_block (w := w) (h.block _ hp hn)
theorem TchF.free {fp : List Nat} {w w' : World} (h : TchF fp w w') {p : Addr} (hp : p.block < w.heap.size) (hn : p.block ∉ fp) : w'.frozen? p = w.frozen? p := World.frozen?_of_block (w := w) (h.block _ hp hn)
theorem markT_len (k : Int) (h : k ≤ 8589934592) : (markT k).length ≤ 30 := by
  unfold markT
  by_cases h0 : k ≤ 0
  · rw [if_pos h0]; decide
  · rw [if_neg h0, markD_dec 20 k.toNat (Nat.lt_of_le_of_lt (show k.toNat ≤ 8589934592 by omega) (by decide))]
    have := decD_len 20 k.toNat (Nat.lt_of_le_of_lt (show k.toNat ≤ 8589934592 by omega) (by decide))
    simp
    omega

set_option maxRecDepth 100000 in
set_option maxHeartbeats 2000000 in
theorem kdSS.mark : MarkD Try.prog kdSS 38 := by
  rintro w vs d fp k ⟨A, c, rfl, h⟩ hn hk0 hk1
  have hwt : wtL kdS d ≤ 1048576 := hn
  have hlen := wtL_len kdS d
  have HD := hide h
  have hcap := h.cap.1
  have hcm := h.cap.2
  clear h hn
  show Calls _ _ #[.slice A d.length c, .int .i64 k] _ _
  have hcn : ((kdSS.cnt d : Nat) : Int) = (cntL kdS d : Nat) := rfl
  rw [hcn] at hk1 ⊢
  obtain ⟨n, hnd⟩ : ∃ n, Hid (d.length = n) := ⟨_, rfl⟩
  rw [hnd.out] at hlen hcap ⊢
  have hn : n ≤ 1048576 := by omega
  have HW := hide hwt
  clear hwt hlen hcn
  go_enter Try.func38, Try.ntmps38
  go_wp2
  go_loopw [1, 5] (fun q i wr => ∃ (j : Nat), j ≤ n ∧ i = .int .i64 j ∧ q = .int .i64 (k + (cntL kdS (d.take j) : Nat)) ∧ LO kdS 9 wr A c (mkd kdS k d j) fp ∧ TchF fp w wr) (fun _ i _ => n - (intOf i).toNat)
  case atStart => exact ⟨0, Nat.zero_le _, rfl, by show _ = Value.int .i64 (k + ((0 : Nat) : Int)); simp, HD.out, TchF.refl _ _⟩
  case round =>
    obtain ⟨j, hj, rfl, rfl, hlo, ht⟩ := hrel
    have HLO := hide hlo
    have HT := hide ht
    clear hlo ht
    by_cases hlt : j < n
    · obtain ⟨x, hxj⟩ : ∃ x, Hid (d[j]? = some x) := ⟨_, List.getElem?_eq_getElem (by rw [hnd.out]; exact hlt)⟩
      have hca := cntL_at kdS d j x hxj.out
      have hcs := hide (cntL_succ kdS d j x hxj.out)
      have hms := hide (mkd_set kdS k d j x hxj.out)
      obtain ⟨C, hC⟩ : ∃ C : Nat, Hid (cntL kdS (d.take j) = C) := ⟨_, rfl⟩
      rw [hC.out] at hca hcs hms ⊢
      obtain ⟨C9, hC9⟩ : ∃ C : Nat, Hid (cntL kdS d = C) := ⟨_, rfl⟩
      rw [hC9.out] at hca hk1
      have hc1 : C + 1 ≤ C9 := by have : kdS.cnt x = 1 := rfl; omega
      replace hcs : Hid (cntL kdS (d.take (j + 1)) = C + 1) := by have h1 := hcs.out; exact h1
      obtain ⟨g, cs, f, rfl, own, sub, mem, glt, cell, free, put⟩ := HLO.out.put j x (mkd_at kdS k d j x hxj.out)
      obtain ⟨⟨rfl, hxl⟩, rfl⟩ := own
      have hck : wr.cell? ⟨g, j, none⟩ = some (.string (bs x)) := by
        have := cell 0 _ rfl
        rwa [show j * kdS.size + 0 = j from by show j * 1 + 0 = j; omega] at this
      have hfr := free j
      have PUT := hide put
      clear put cell free sub
      obtain ⟨Kn, hKn⟩ : ∃ Kn : Nat, k + (C : Int) = Kn := ⟨(k + C).toNat, by omega⟩
      rw [hKn] at hms ⊢
      have hKb : Kn ≤ 8589934592 := by omega
      have MT := hide (l.markText_any Kn wr hKb)
      have ML := markT_len (Kn : Int) (by omega)
      generalize hmt : markT (Kn : Int) = mt at *
      go_wp2_with fail
      refine MT.out.mono ?_
      rintro e w2 ⟨rfl, x2⟩
      have hck2 : w2.cell? ⟨g, j, none⟩ = some (.string (bs x)) := by rw [x2.cell glt]; exact hck
      have hfr2 : w2.frozen? ⟨g, j, none⟩ = false := by rw [World.frozen?_of_block (w := wr) (x2.block g glt)]; exact hfr
      have X2 := hide x2
      clear x2 hck hfr MT
      go_wp2
      go_roundw
      case rel =>
        have hl2 := PUT.out w2 0 (.string (bs mt)) mt (by decide) ⟨⟨rfl, by omega⟩, rfl⟩ (TchF.of_ext X2.out)
        rw [show j * kdS.size + 0 = j from by show j * 1 + 0 = j; omega] at hl2
        rw [show (mkd kdS k d j).set j mt = mkd kdS k d (j + 1) from by rw [← hms.out, ← hmt]; rfl] at hl2
        exact ⟨j + 1, by omega, by go_num, by rw [hcs.out]; exact congrArg (Value.int .i64) (by omega), hl2, (HT.out.trans (TchF.of_ext X2.out)).trans (TchF.set1 _ _ _ mem)⟩
      case measure => simp [intOf]; omega
    · go_wp2
      go_ret
      have ht : d.take j = d := List.take_of_length_le (by rw [hnd.out]; omega)
      refine ⟨ret_int (by rw [ht]), ⟨A, c, ?_, ?_⟩, HT.out⟩
      · show [Value.slice A n c] = [Value.slice A (mrkL kdS k d).length c]
        rw [mrkL_len, hnd.out]
      · have := HLO.out
        rwa [mkd_all kdS k d j (by rw [hnd.out]; exact hlt)] at this

set_option maxRecDepth 100000 in
set_option maxHeartbeats 2000000 in
theorem kdItS.mark : MarkD Try.prog kdItS 18 := by
  rintro w vs d fp k ⟨A, c, rfl, h⟩ hn hk0 hk1
  have hwt : wtL kdItem d ≤ 1048576 := hn
  have hlen := wtL_len kdItem d
  have HD := hide h
  have hcap := h.cap.1
  have hcm := h.cap.2
  clear h hn
  show Calls _ _ #[.slice A d.length c, .int .i64 k] _ _
  have hcn : ((kdItS.cnt d : Nat) : Int) = (cntL kdItem d : Nat) := rfl
  rw [hcn] at hk1 ⊢
  obtain ⟨n, hnd⟩ : ∃ n, Hid (d.length = n) := ⟨_, rfl⟩
  rw [hnd.out] at hlen hcap ⊢
  have hn : n ≤ 1048576 := by omega
  have HW := hide hwt
  clear hwt hlen hcn
  go_enter Try.func18, Try.ntmps18
  go_wp2
  go_loopw [1, 5] (fun q i wr => ∃ (j : Nat), j ≤ n ∧ i = .int .i64 j ∧ q = .int .i64 (k + (cntL kdItem (d.take j) : Nat)) ∧ LO kdItem 59 wr A c (mkd kdItem k d j) fp ∧ TchF fp w wr) (fun _ i _ => n - (intOf i).toNat)
  case atStart => exact ⟨0, Nat.zero_le _, rfl, by show _ = Value.int .i64 (k + ((0 : Nat) : Int)); simp, HD.out, TchF.refl _ _⟩
  case round =>
    obtain ⟨j, hj, rfl, rfl, hlo, ht⟩ := hrel
    have HLO := hide hlo
    have HT := hide ht
    clear hlo ht
    by_cases hlt : j < n
    · obtain ⟨x, hxj⟩ : ∃ x, Hid (d[j]? = some x) := ⟨_, List.getElem?_eq_getElem (by rw [hnd.out]; exact hlt)⟩
      have hca := cntL_at kdItem d j x hxj.out
      have hcs := hide (cntL_succ kdItem d j x hxj.out)
      have hms := hide (mkd_set kdItem k d j x hxj.out)
      obtain ⟨C, hC⟩ : ∃ C : Nat, Hid (cntL kdItem (d.take j) = C) := ⟨_, rfl⟩
      rw [hC.out] at hca hcs hms ⊢
      obtain ⟨C9, hC9⟩ : ∃ C : Nat, Hid (cntL kdItem d = C) := ⟨_, rfl⟩
      rw [hC9.out] at hca hk1
      have hwx : kdItem.wt x ≤ 1048576 := Nat.le_trans (wtL_at kdItem d j x hxj.out) HW.out
      rw [kdItem.wt_eq] at hwx
      have hw1 : kdSS.wt x.1 ≤ 1048576 := by omega
      have hw2 : kdL.wt x.2.1 ≤ 1048576 := by omega
      have hcx : kdItem.cnt x = kdSS.cnt x.1 + (kdL.cnt x.2.1 + 1) := rfl
      obtain ⟨g, cs, f, rfl, own, sub, mem, glt, cell, free, put⟩ := HLO.out.put j x (mkd_at kdItem k d j x hxj.out)
      obtain ⟨v1, v2, f1, f2, hcs0, ⟨A1, c1, rfl, l1⟩, ⟨v3, v4, f3, f4, rfl, ⟨A2, c2, rfl, l2⟩, ⟨h4, rfl⟩, hf2, _⟩, hf, hnd⟩ := own
      have h4 : v4 = [.bool x.2.2] := h4
      subst h4
      simp only [List.append_nil] at hf2
      subst hf2
      have hcs0 : cs = [.slice A1 x.1.length c1, .slice A2 x.2.1.length c2, .bool x.2.2] := hcs0
      subst hcs0
      subst hf
      have hdj : ∀ i ∈ f1, i ∉ f2 := by rw [List.nodup_append] at hnd; exact fun i hi hi' => hnd.2.2 i hi i hi' rfl
      have g1 : g ∉ f1 := fun hm => (sub g (List.mem_append_left _ hm)).2 rfl
      have g2 : g ∉ f2 := fun hm => (sub g (List.mem_append_right _ hm)).2 rfl
      have q0 : wr.cell? ⟨g, j * 3, none⟩ = some (.slice A1 x.1.length c1) := cell 0 _ rfl
      have q1 : wr.cell? ⟨g, j * 3 + 1, none⟩ = some (.slice A2 x.2.1.length c2) := cell 1 _ rfl
      have q2 : wr.cell? ⟨g, j * 3 + 2, none⟩ = some (.bool x.2.2) := cell 2 _ rfl
      have qf := free (j * 3 + 2)
      have O1 : Hid (kdSS.own wr [.slice A1 x.1.length c1] x.1 f1) := ⟨A1, c1, rfl, l1⟩
      have O2 : Hid (kdL.own wr [.slice A2 x.2.1.length c2] x.2.1 f2) := ⟨A2, c2, rfl, l2⟩
      have PUT := hide put
      have SUB := hide sub
      have DJ := hide hdj
      clear put cell free sub hdj hnd l1 l2 hwx
      obtain ⟨D1, hD1⟩ : ∃ D1 : Nat, Hid (kdSS.cnt x.1 = D1) := ⟨_, rfl⟩
      obtain ⟨D2, hD2⟩ : ∃ D2 : Nat, Hid (kdL.cnt x.2.1 = D2) := ⟨_, rfl⟩
      rw [hcx, hD1.out, hD2.out] at hca hcs
      clear hcx
      have hb1 : (0 : Int) ≤ k + C ∧ k + C + D1 + D2 + 1 ≤ 8589934592 := by omega
      generalize x.2.2 = lt0 at *
      obtain ⟨n1, hn1⟩ : ∃ n1, Hid (x.1.length = n1) := ⟨_, rfl⟩
      obtain ⟨n2, hn2⟩ : ∃ n2, Hid (x.2.1.length = n2) := ⟨_, rfl⟩
      rw [hn1.out] at q0 O1
      rw [hn2.out] at q1 O2
      rw [hn1.out, hn2.out] at PUT
      go_wp2_with fail
      refine (kdSS.mark wr [.slice A1 n1 c1] x.1 f1 (k + C) O1.out hw1 (by omega) (by rw [hD1.out]; omega)).mono ?_
      rintro e w2 ⟨rfl, o2, t2⟩
      rw [hD1.out]
      have z2 := t2.size
      have q1b : w2.cell? ⟨g, j * 3 + 1, none⟩ = some (.slice A2 n2 c2) := by rw [t2.cell glt g1]; exact q1
      have q2b : w2.cell? ⟨g, j * 3 + 2, none⟩ = some (.bool lt0) := by rw [t2.cell glt g1]; exact q2
      have qfb : w2.frozen? ⟨g, j * 3 + 2, none⟩ = false := by rw [t2.free glt g1]; exact qf
      replace O2 := hide (kdL.own_tchF O2.out t2 (fun i hi hi' => DJ.out i hi' hi))
      have T2 := hide t2
      have R1 := hide o2
      clear q0 q1 q2 qf t2 o2 O1
      go_wp2_with fail
      refine (kdL.mark w2 [.slice A2 n2 c2] x.2.1 f2 (k + C + D1) O2.out hw2 (by omega) (by rw [hD2.out]; omega)).mono ?_
      rintro e w3 ⟨rfl, o3, t3⟩
      rw [hD2.out]
      have q2c : w3.cell? ⟨g, j * 3 + 2, none⟩ = some (.bool lt0) := by rw [t3.cell (by show g < _; omega) g2]; exact q2b
      have qfc : w3.frozen? ⟨g, j * 3 + 2, none⟩ = false := by rw [t3.free (by show g < _; omega) g2]; exact qfb
      replace R1 := hide (kdSS.own_tchF R1.out t3 DJ.out)
      have R2 := hide o3
      have T3 := hide t3
      clear q1b q2b qfb t3 o3 O2
      generalize hK3 : k + (C : Int) + (D1 : Int) + (D2 : Int) = K3 at *
      go_wp2
      go_roundw
      case rel =>
        obtain ⟨A3, c3, e3, l3⟩ := R1.out
        obtain ⟨A4, c4, e4, l4⟩ := R2.out
        simp only [List.cons.injEq, Value.slice.injEq, and_true] at e3 e4
        obtain ⟨rfl, e3, rfl⟩ := e3
        obtain ⟨rfl, e4, rfl⟩ := e4
        have ho := kdItem.mkOwn (d := (kdSS.mrk (k + C) x.1, kdL.mrk (k + C + D1) x.2.1, K3 % 3 == 0)) l3 l4 DJ.out
        rw [← e3, ← e4] at ho
        have hl2 := PUT.out w3 2 (.bool (K3 % 3 == 0)) _ (by decide) ho ((T2.out.more (fun i hi => List.mem_append_left _ hi)).trans (T3.out.more (fun i hi => List.mem_append_right _ hi)))
        have he : (kdSS.mrk (k + C) x.1, kdL.mrk (k + C + D1) x.2.1, K3 % 3 == 0) = kdItem.mrk (k + C) x := by
          show _ = (kdSS.mrk (k + C) x.1, kdL.mrk (k + C + (kdSS.cnt x.1 : Nat)) x.2.1, (k + C + (kdSS.cnt x.1 : Nat) + (kdL.cnt x.2.1 : Nat)) % 3 == 0)
          rw [hD1.out, hD2.out, hK3]
        rw [he, hms.out] at hl2
        exact ⟨j + 1, by omega, by go_num, by rw [hcs.out]; exact congrArg (Value.int .i64) (by omega), hl2, ((HT.out.trans (T2.out.more (fun i hi => (SUB.out i (List.mem_append_left _ hi)).1))).trans (T3.out.more (fun i hi => (SUB.out i (List.mem_append_right _ hi)).1))).trans (TchF.set1 _ _ _ mem)⟩
      case measure => simp [intOf]; omega
    · go_wp2
      go_ret
      have ht : d.take j = d := List.take_of_length_le (by rw [hnd.out]; omega)
      refine ⟨ret_int (by rw [ht]), ⟨A, c, ?_, ?_⟩, HT.out⟩
      · show [Value.slice A n c] = [Value.slice A (mrkL kdItem k d).length c]
        rw [mrkL_len, hnd.out]
      · have := HLO.out
        rwa [mkd_all kdItem k d j (by rw [hnd.out]; exact hlt)] at this

end Go.Proofs.Ytcnpbaldnhfebaa

/- Sheets and lists of lists as the laws that mark them hand them about. -/
namespace Go.Proofs.Ytcnpbaldnhfebaa
open Go.RowKit Go.Sort
set_option linter.unusedVariables false

theorem cntL_le {α : Type} (K : Kd α) (m : Nat) (h : ∀ x, K.cnt x ≤ m * (1 + K.wt x)) (xs : List α) : cntL K xs ≤ m * wtL K xs := by
  induction xs with
  | nil => exact Nat.zero_le _
  | cons x t ih =>
    have h1 := h x
    show K.cnt x + cntL K t ≤ m * (1 + K.wt x + wtL K t)
    rw [Nat.mul_add]
    omega
theorem cntLL_wt (xs : List (List Int)) : kdLL.cnt xs ≤ kdLL.wt xs := by
  have := cntL_le kdL 1 (fun x => by
    have h1 : kdL.cnt x = x.length := cntL_int x
    have h2 : kdL.wt x = x.length := wtL_int x
    omega) xs
  have e1 : kdLL.cnt xs = cntL kdL xs := rfl
  have e2 : kdLL.wt xs = wtL kdL xs := rfl
  omega
/-- Lists of lists of numbers. -/
def kII : Kind (List (List Int)) where
  rd w v d := ∃ vs, v = kdLL.val vs ∧ kdLL.rd w w.heap.size vs d
  fr w lo hi v d := ∃ vs fp, v = kdLL.val vs ∧ kdLL.own w vs d fp ∧ (∀ i ∈ fp, lo ≤ i ∧ i < hi)
  ok d := kdLL.wt d ≤ 1048576
  mrk := kdLL.mrk
  cnt := kdLL.cnt
  rd_ext := by
    rintro w w' v d ⟨vs, rfl, h⟩ hx
    exact ⟨vs, rfl, kdLL.rd_more (kdLL.rd_ext h hx (Nat.le_refl _)) hx.size⟩
  fr_rd := by
    rintro w lo hi v d ⟨vs, fp, rfl, h, _⟩
    exact ⟨vs, rfl, kdLL.own_rd h⟩
  fr_tch := by
    rintro w w' lo hi lo' hi' v d ⟨vs, fp, rfl, h, hf⟩ k hd
    refine ⟨vs, fp, rfl, kdLL.own_keep h (fun i hi' => k.block i (kdLL.own_lt h i hi') ?_), hf⟩
    have := hf i hi'
    omega
  ok_cnt := fun {d} h => Nat.le_trans (Nat.le_trans (cntLL_wt d) h) (by decide)
theorem kII.of_LO {w : World} {A : Option Addr} {c lo n : Nat} {xs : List (List Int)} {fp : List Nat} (h : LO kdL 23 w A c xs fp) (hf : ∀ i ∈ fp, lo ≤ i) (hn : n = xs.length) : kII.fr w lo w.heap.size (.slice A n c) xs := by
  subst hn
  exact ⟨[.slice A xs.length c], fp, rfl, ⟨A, c, rfl, h⟩, fun i hi => ⟨hf i hi, h.lt i hi⟩⟩
theorem kII.fr_nil (w : World) (lo hi : Nat) : kII.fr w lo hi (.slice none 0 0) [] := ⟨[.slice none 0 0], [], rfl, ⟨none, 0, rfl, LO.none_⟩, by simp⟩
end Go.Proofs.Ytcnpbaldnhfebaa
