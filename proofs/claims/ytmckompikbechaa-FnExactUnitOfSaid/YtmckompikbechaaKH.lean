/- Lists of lists, and marks: compared, weighed, marked, looked at again. -/
import Derived.Test.YtmckompikbechaaKG
namespace Go.Proofs.Ytmckompikbechaa
open Go.RowKit Go.Sort
set_option linter.unusedVariables false

/-- A contract that only makes memory, met inside a region that draws its order. -/
theorem ext_regrown {P : Program} {f : FuncId} {args : Array Value} {w : World} {d : Nat} {os : Array Obj} {v : Value}
    (h : Calls P f args (grow (redrawn w d) os) fun e w' => e = .returned v ∧ Ext (grow (redrawn w d) os) w') : Calls P f args (grow (redrawn w d) os) fun e w'' => e = .returned v ∧ ∃ p : Regrown, w'' = grow (redrawn w p.d) p.os :=
  Calls.regrown_of h
theorem ext_re (w : World) (d : Nat) (os : Array Obj) : Ext w (grow (redrawn w d) os) := below_regrown w d os

/-- Cells of new blocks. -/
theorem cellA {w : World} {o : Obj} {p : Addr} (h : p.block < w.heap.size) : (w.alloc o).cell? p = w.cell? p := World.cell?_alloc_lt w o p h
theorem cellN {w : World} {H : Nat} (hH : w.heap.size = H) (cs : Array Value) (t : TypeId) (i : Nat) : (w.alloc (.cells cs t)).cell? ⟨H, i, none⟩ = cs[i]? := by
  subst hH; exact cell_of_row _ _ i cs t (0, 0) (heap_alloc_new w _)
theorem freeA {w : World} {o : Obj} {p : Addr} (h : p.block < w.heap.size) : (w.alloc o).frozen? p = w.frozen? p := World.frozen?_of_block (w := w) (Below.heap_alloc w o p.block h)
theorem freeN {w : World} {H : Nat} (hH : w.heap.size = H) (cs : Array Value) (t : TypeId) (i : Nat) : (w.alloc (.cells cs t)).frozen? ⟨H, i, none⟩ = false := by
  subst hH; exact frozen_of_row _ _ i cs t (heap_alloc_new w _)
theorem cellS {w : World} {p q : Addr} {u : Value} (h : p ≠ q) : (w.setCell q u).cell? p = w.cell? p := World.cell?_setCell_other w q p u (Ne.symm h)
theorem freeS {w : World} {p q : Addr} {u : Value} (h : p.block ≠ q.block) : (w.setCell q u).frozen? p = w.frozen? p := World.frozen?_of_block (w := w) (Below.heap_setCell w q u p.block h)

/-- A block that is known whole: a variable of the call's own. -/
def Blk (w : World) (g : Nat) (cs : Array Value) (t : TypeId) : Prop := w.heap[g]? = some (.cells cs t (0, 0))
section
variable {w w' : World} {g : Nat} {cs : Array Value} {t : TypeId}
theorem Blk.lt (h : Blk w g cs t) : g < w.heap.size := by
  rcases Nat.lt_or_ge g w.heap.size with hlt | hge
  · exact hlt
  · unfold Blk at h; rw [Array.getElem?_eq_none hge] at h; cases h
theorem Blk.cell (h : Blk w g cs t) (i : Nat) : w.cell? ⟨g, i, none⟩ = cs[i]? := cell_of_row w g i cs t (0, 0) h
theorem Blk.free (h : Blk w g cs t) (i : Nat) : w.frozen? ⟨g, i, none⟩ = false := frozen_of_row w g i cs t h
theorem Blk.new {H : Nat} (hH : w.heap.size = H) (cs : Array Value) (t : TypeId) : Blk (w.alloc (.cells cs t)) H cs t := by subst hH; exact heap_alloc_new w _
theorem Blk.alloc (h : Blk w g cs t) (o : Obj) : Blk (w.alloc o) g cs t := (Below.heap_alloc w o g h.lt).trans h
theorem Blk.ext (h : Blk w g cs t) (k : Ext w w') : Blk w' g cs t := (k.block g h.lt).trans h
theorem Blk.tchF {fp : List Nat} (h : Blk w g cs t) (k : TchF fp w w') (hg : g ∉ fp) : Blk w' g cs t := (k.block g h.lt hg).trans h
theorem Blk.set (h : Blk w g cs t) (i : Nat) (u : Value) : Blk (w.setCell ⟨g, i, none⟩ u) g (cs.setIfInBounds i u) t := heap_setCell_same w g i cs t u h
theorem Blk.far (h : Blk w g cs t) {p : Addr} (hp : g ≠ p.block) (u : Value) : Blk (w.setCell p u) g cs t := (Below.heap_setCell w p u g hp).trans h
theorem Blk.tch {lo hi : Nat} (h : Blk w g cs t) (k : Tch lo hi w w') (hg : g < lo ∨ hi ≤ g) : Blk w' g cs t := (k.block g h.lt (by omega)).trans h
end

theorem cntL_at {α : Type} (K : Kd α) (xs : List α) (k : Nat) (x : α) (h : xs[k]? = some x) : cntL K (xs.take k) + K.cnt x ≤ cntL K xs := by
  induction xs generalizing k with
  | nil => simp at h
  | cons y t ih =>
    cases k with
    | zero => simp at h; subst h; show 0 + K.cnt y ≤ K.cnt y + cntL K t; omega
    | succ k => simp at h; have := ih k h; show K.cnt y + cntL K (t.take k) + K.cnt x ≤ K.cnt y + cntL K t; omega
theorem cntL_succ {α : Type} (K : Kd α) (xs : List α) (k : Nat) (x : α) (h : xs[k]? = some x) : cntL K (xs.take (k + 1)) = cntL K (xs.take k) + K.cnt x := by
  induction xs generalizing k with
  | nil => simp at h
  | cons y t ih =>
    cases k with
    | zero => simp at h; subst h; show K.cnt y + 0 = 0 + K.cnt y; omega
    | succ k => simp at h; have := ih k h; show K.cnt y + cntL K (t.take (k + 1)) = K.cnt y + cntL K (t.take k) + K.cnt x; omega
theorem wtL_succ {α : Type} (K : Kd α) (xs : List α) (k : Nat) (x : α) (h : xs[k]? = some x) : wtL K (xs.take (k + 1)) = wtL K (xs.take k) + (1 + K.wt x) := by
  induction xs generalizing k with
  | nil => simp at h
  | cons y t ih =>
    cases k with
    | zero => simp at h; subst h; show 1 + K.wt y + 0 = 0 + (1 + K.wt y); omega
    | succ k => simp at h; have := ih k h; show 1 + K.wt y + wtL K (t.take (k + 1)) = 1 + K.wt y + wtL K (t.take k) + (1 + K.wt x); omega
theorem wtL_take_le {α : Type} (K : Kd α) (xs : List α) (k : Nat) : wtL K (xs.take k) + (xs.length - k) ≤ wtL K xs := by
  induction xs generalizing k with
  | nil => simp
  | cons y t ih =>
    cases k with
    | zero => have := wtL_len K (y :: t); show 0 + (t.length + 1 - 0) ≤ _; simp at this; omega
    | succ k => have := ih k; show 1 + K.wt y + wtL K (t.take k) + (t.length + 1 - (k + 1)) ≤ 1 + K.wt y + wtL K t; omega
/-- The list in which the first j elements have been marked. -/
def mkd {α : Type} (K : Kd α) (k : Int) (xs : List α) (j : Nat) : List α := mrkL K k (xs.take j) ++ xs.drop j
theorem mrkL_len {α : Type} (K : Kd α) (k : Int) (xs : List α) : (mrkL K k xs).length = xs.length := by
  induction xs generalizing k with
  | nil => rfl
  | cons y t ih => show (mrkL K _ t).length + 1 = t.length + 1; rw [ih]
theorem mkd_len {α : Type} (K : Kd α) (k : Int) (xs : List α) (j : Nat) : (mkd K k xs j).length = xs.length := by
  unfold mkd; rw [List.length_append, mrkL_len]; simp; omega
theorem mrkL_app {α : Type} (K : Kd α) (k : Int) (xs : List α) (x : α) : mrkL K k (xs ++ [x]) = mrkL K k xs ++ [K.mrk (k + cntL K xs) x] := by
  induction xs generalizing k with
  | nil => show [K.mrk k x] = [K.mrk (k + ((0 : Nat) : Int)) x]; simp
  | cons y t ih =>
    show K.mrk k y :: mrkL K (k + K.cnt y) (t ++ [x]) = K.mrk k y :: (mrkL K (k + K.cnt y) t ++ [K.mrk (k + ((K.cnt y + cntL K t : Nat) : Int)) x])
    rw [ih]
    congr 3
    congr 1
    omega
theorem mkd_at {α : Type} (K : Kd α) (k : Int) (xs : List α) (j : Nat) (x : α) (h : xs[j]? = some x) : (mkd K k xs j)[j]? = some x := by
  have hj := (List.getElem?_eq_some_iff.1 h).1
  have e : (mrkL K k (xs.take j)).length = j := by rw [mrkL_len]; simp; omega
  unfold mkd
  rw [List.getElem?_append_right (by omega), e, Nat.sub_self, List.getElem?_drop, Nat.add_zero, h]
theorem mkd_set {α : Type} (K : Kd α) (k : Int) (xs : List α) (j : Nat) (x : α) (h : xs[j]? = some x) : (mkd K k xs j).set j (K.mrk (k + cntL K (xs.take j)) x) = mkd K k xs (j + 1) := by
  obtain ⟨hj, hx⟩ := List.getElem?_eq_some_iff.1 h
  have e : (mrkL K k (xs.take j)).length = j := by rw [mrkL_len]; simp; omega
  unfold mkd
  rw [List.set_append_right _ _ (by omega), e, Nat.sub_self, List.drop_eq_getElem_cons hj, List.set_cons_zero, List.take_succ_eq_append_getElem hj, mrkL_app, hx, List.append_assoc]
  rfl
theorem mkd_all {α : Type} (K : Kd α) (k : Int) (xs : List α) (j : Nat) (h : ¬ j < xs.length) : mkd K k xs j = mrkL K k xs := by
  unfold mkd
  rw [List.take_of_length_le (by omega), List.drop_eq_nil_of_le (by omega)]; simp
theorem mrkL_at {α : Type} (K : Kd α) (k : Int) (xs : List α) (j : Nat) (x : α) (h : xs[j]? = some x) : (mrkL K k xs)[j]? = some (K.mrk (k + cntL K (xs.take j)) x) := by
  induction xs generalizing k j with
  | nil => simp at h
  | cons y t ih =>
    cases j with
    | zero => simp at h; subst h; show some (K.mrk k y) = some (K.mrk (k + ((0 : Nat) : Int)) y); simp
    | succ j =>
      simp at h
      show (mrkL K (k + K.cnt y) t)[j]? = _
      rw [ih _ j h]
      show some (K.mrk (k + K.cnt y + cntL K (t.take j)) x) = some (K.mrk (k + ((K.cnt y + cntL K (t.take j) : Nat) : Int)) x)
      congr 2
      omega

set_option maxHeartbeats 1000000 in
theorem kdLL.eq_ : EqD Try.prog kdLL 119 := by
  rintro w vs vs' d ⟨A, c, rfl, h⟩ ⟨A', c', rfl, h'⟩ hn
  have hwt : wtL kdL d ≤ 1048576 := hn
  have hlen := wtL_len kdL d
  have HD := hide h
  have HD' := hide h'
  clear h h' hn
  show Calls _ _ #[.slice A d.length c, .slice A' d.length c'] _ _
  obtain ⟨n, hnd⟩ : ∃ n, Hid (d.length = n) := ⟨_, rfl⟩
  rw [hnd.out] at hlen ⊢
  have hn : n ≤ 1048576 := by omega
  have HW := hide hwt
  clear hwt hlen
  have hne : ((n : Int) != (n : Int)) = false := by simp
  go_enter Try.func119, Try.ntmps119
  go_wp2
  go_loopw [5] (fun i wr => ∃ (k : Nat), k ≤ n ∧ i = .int .i64 k ∧ Ext w wr) (fun i _ => n - (intOf i).toNat)
  case atStart => exact ⟨0, Nat.zero_le _, rfl, Ext.refl _⟩
  case round =>
    obtain ⟨k, hk, rfl, hx⟩ := hrel
    have HX := hide hx
    clear hx
    by_cases hlt : k < n
    · obtain ⟨x, hxk⟩ : ∃ x, Hid (d[k]? = some x) := ⟨_, List.getElem?_eq_getElem (by rw [hnd.out]; exact hlt)⟩
      obtain ⟨b, off, cs, rfl, hb, ⟨Ak, ck, rfl, hrk⟩, hc⟩ := (HD.out.ext HX.out (Nat.le_refl _)).2.2 k x hxk.out
      obtain ⟨b', off', cs', rfl, hb', ⟨Ak', ck', rfl, hrk'⟩, hc'⟩ := (HD'.out.ext HX.out (Nat.le_refl _)).2.2 k x hxk.out
      have hck : wr.cell? ⟨b, off + k, none⟩ = some (.slice Ak x.length ck) := by
        have := hc 0 _ rfl
        rwa [show k * kdL.size + 0 = k from by show k * 1 + 0 = k; omega] at this
      have hck' : wr.cell? ⟨b', off' + k, none⟩ = some (.slice Ak' x.length ck') := by
        have := hc' 0 _ rfl
        rwa [show k * kdL.size + 0 = k from by show k * 1 + 0 = k; omega] at this
      have q1 := fun dd os => cell_regrown hck dd os
      have q2 := fun dd os => cell_regrown hck' dd os
      have hrd : kdL.rd wr wr.heap.size [.slice Ak x.length ck] x := ⟨Ak, ck, rfl, hrk.more HX.out.size⟩
      have hrd' : kdL.rd wr wr.heap.size [.slice Ak' x.length ck'] x := ⟨Ak', ck', rfl, hrk'.more HX.out.size⟩
      have hwx := Nat.le_trans (wtL_at kdL d k x hxk.out) HW.out
      have hcall : ∀ dd os, Calls Try.prog 45 #[.slice Ak x.length ck, .slice Ak' x.length ck'] (grow (redrawn wr dd) os) fun e w'' => e = .returned (.bool true) ∧ ∃ p : Regrown, w'' = grow (redrawn wr p.d) p.os :=
        fun dd os => ext_regrown (kdL.eq_ _ [.slice Ak x.length ck] [.slice Ak' x.length ck'] x (kdL.rd_more (kdL.rd_ext hrd (ext_re wr dd os) (Nat.le_refl _)) (ext_re wr dd os).size) (kdL.rd_more (kdL.rd_ext hrd' (ext_re wr dd os) (Nat.le_refl _)) (ext_re wr dd os).size) hwx)
      have HC := hide hcall
      have i1 : (k : Int) < n := by omega
      clear hc hrk hc' hrk' hcall hrd hrd' hwx
      go_wp2
      refine wp_region_quiet_below (by kernel_rfl) (by kernel_rfl) ?_
      repeat (quiet_step (exact HC.out _ _))
      refine wpQuiet_nil ?_
      intro _ hw'
      obtain ⟨⟨dq, osq⟩, hw''⟩ := hw'
      subst hw''
      have HX2 := hide (HX.out.trans (ext_re wr dq osq))
      clear q1 q2
      generalize grow (redrawn wr dq) osq = w2 at *
      go_wp2
      go_roundw
      case rel => exact ⟨k + 1, by omega, by go_num, HX2.out⟩
      case measure => simp [intOf]; omega
    · go_wp2
      go_ret
      exact ⟨rfl, HX.out⟩

set_option maxHeartbeats 1000000 in
theorem kdLL.sz : SzD Try.prog kdLL 125 := by
  rintro w vs d l ⟨A, c, rfl, h⟩ hl0 hl1
  have hlen := wtL_len kdL d
  have HD := hide h
  have hcap := h.1
  have hcm := h.2.1
  clear h
  show Calls _ _ #[.slice A d.length c, .int .i64 l] _ _
  obtain ⟨n, hnd⟩ : ∃ n, Hid (d.length = n) := ⟨_, rfl⟩
  rw [hnd.out] at hlen hcap ⊢
  obtain ⟨W, hW⟩ : ∃ W, Hid (wtL kdL d = W) := ⟨_, rfl⟩
  rw [hW.out] at hlen
  rw [show (kdLL.wt d) = W from hW.out]
  by_cases hle0 : (n : Int) ≤ l
  · obtain ⟨R, hR⟩ : ∃ R, Hid ((if (W : Int) ≤ l then l - W else -1) = R) := ⟨_, rfl⟩
    rw [hR.out]
    go_enter Try.func125, Try.ntmps125
    go_wp2
    go_loopw [1, 5] (fun q i wr => ∃ (k : Nat) (m : Int), k ≤ n ∧ i = .int .i64 k ∧ q = .int .i64 m ∧ 0 ≤ m ∧ m + n + wtL kdL (d.take k) = l + k ∧ Ext w wr) (fun _ i _ => n - (intOf i).toNat)
    case atStart => exact ⟨0, l - n, Nat.zero_le _, rfl, rfl, by omega, by show l - n + n + ((0 : Nat) : Int) = l + ((0 : Nat) : Int); omega, Ext.refl _⟩
    case round =>
      obtain ⟨k, m, hk, rfl, rfl, hm0, hm, hx⟩ := hrel
      have HX := hide hx
      have HM := hide hm
      clear hx hm
      have hm1 : m ≤ 1048576 := by have := HM.out; have h2 : k ≤ wtL kdL (d.take k) := by { have := wtL_len kdL (d.take k); simp [hnd.out] at this; omega }; omega
      by_cases hlt : k < n
      · obtain ⟨x, hxk⟩ : ∃ x, Hid (d[k]? = some x) := ⟨_, List.getElem?_eq_getElem (by rw [hnd.out]; exact hlt)⟩
        obtain ⟨b, off, cs, rfl, hb, ⟨Ak, ck, rfl, hrk⟩, hc⟩ := (HD.out.ext HX.out (Nat.le_refl _)).2.2 k x hxk.out
        have hck : wr.cell? ⟨b, off + k, none⟩ = some (.slice Ak x.length ck) := by
          have := hc 0 _ rfl
          rwa [show k * kdL.size + 0 = k from by show k * 1 + 0 = k; omega] at this
        have HRK := hide hrk
        have hs := hide (wtL_succ kdL d k x hxk.out)
        have ht := hide (wtL_take_le kdL d (k + 1))
        clear hc hrk
        go_wp2_with fail
        refine (kdL.sz wr [.slice Ak x.length ck] x m ⟨Ak, ck, rfl, HRK.out.more HX.out.size⟩ hm0 hm1).mono ?_
        rintro e w2 ⟨rfl, hx2⟩
        have HX2 := hide (HX.out.trans hx2)
        clear hx2
        by_cases hle : (kdL.wt x : Int) ≤ m
        · rw [if_pos hle]
          generalize hmm : m - (kdL.wt x : Int) = mm
          have hmm0 : 0 ≤ mm := by omega
          have HMM := hide hmm
          clear hmm
          go_wp2
          go_roundw
          case rel => exact ⟨k + 1, mm, by omega, by go_num, rfl, hmm0, by have := HM.out; have := hs.out; have := HMM.out; omega, HX2.out⟩
          case measure => simp [intOf]; omega
        · rw [if_neg hle]
          go_wp2
          go_ret
          exact ⟨ret_int (by rw [← hR.out, if_neg (by have := HM.out; have := hs.out; have := ht.out; have := hW.out; have := hnd.out; omega)]), HX2.out⟩
      · go_wp2
        go_ret
        have ek : k = n := by omega
        have ht : d.take k = d := List.take_of_length_le (by rw [hnd.out]; omega)
        exact ⟨ret_int (by have h1 := HM.out; rw [ht, hW.out] at h1; rw [← hR.out, if_pos (by omega)]; omega), HX.out⟩
  · rw [if_neg (by omega)]
    go_enter Try.func125, Try.ntmps125
    go_wp2
    go_ret
    exact ⟨rfl, Ext.refl _⟩

set_option maxHeartbeats 1000000 in
theorem kdLL.mark : MarkD Try.prog kdLL 122 := by
  rintro w vs d fp k ⟨A, c, rfl, h⟩ hn hk0 hk1
  have hwt : wtL kdL d ≤ 1048576 := hn
  have hlen := wtL_len kdL d
  have HD := hide h
  have hcap := h.cap.1
  have hcm := h.cap.2
  clear h hn
  show Calls _ _ #[.slice A d.length c, .int .i64 k] _ _
  have hcn : ((kdLL.cnt d : Nat) : Int) = (cntL kdL d : Nat) := rfl
  rw [hcn] at hk1 ⊢
  obtain ⟨n, hnd⟩ : ∃ n, Hid (d.length = n) := ⟨_, rfl⟩
  rw [hnd.out] at hlen hcap ⊢
  have hn : n ≤ 1048576 := by omega
  have HW := hide hwt
  clear hwt hlen hcn
  go_enter Try.func122, Try.ntmps122
  go_wp2
  go_loopw [1, 5] (fun q i wr => ∃ (j : Nat), j ≤ n ∧ i = .int .i64 j ∧ q = .int .i64 (k + (cntL kdL (d.take j) : Nat)) ∧ LO kdL 51 wr A c (mkd kdL k d j) fp ∧ TchF fp w wr) (fun _ i _ => n - (intOf i).toNat)
  case atStart => exact ⟨0, Nat.zero_le _, rfl, by show _ = Value.int .i64 (k + ((0 : Nat) : Int)); simp, HD.out, TchF.refl _ _⟩
  case round =>
    obtain ⟨j, hj, rfl, rfl, hlo, ht⟩ := hrel
    have HLO := hide hlo
    have HT := hide ht
    clear hlo ht
    by_cases hlt : j < n
    · obtain ⟨x, hxj⟩ : ∃ x, Hid (d[j]? = some x) := ⟨_, List.getElem?_eq_getElem (by rw [hnd.out]; exact hlt)⟩
      obtain ⟨g, cs, f, hat⟩ := HLO.out.at_ j x (mkd_at kdL k d j x hxj.out)
      obtain rfl := hat.addr
      obtain ⟨Ak, ck, rfl, hlk⟩ := hat.own
      have hck : wr.cell? ⟨g, j, none⟩ = some (.slice Ak x.length ck) := by
        have := hat.cell 0 _ rfl
        rwa [show j * kdL.size + 0 = j from by show j * 1 + 0 = j; omega] at this
      have hca := hide (cntL_at kdL d j x hxj.out)
      have hcs := hide (cntL_succ kdL d j x hxj.out)
      have HAT := hide hat
      clear hat hlk
      obtain ⟨C, hC⟩ : ∃ C : Nat, Hid (cntL kdL (d.take j) = C) := ⟨_, rfl⟩
      rw [hC.out]
      have hCb : k + C ≤ 8589934592 := by have h1 := hca.out; rw [hC.out] at h1; omega
      go_wp2_with fail
      refine (kdL.mark wr [.slice Ak x.length ck] x f (k + C) HAT.out.own (Nat.le_trans (wtL_at kdL d j x hxj.out) HW.out) (by omega) (by have h1 := hca.out; rw [hC.out] at h1; omega)).mono ?_
      rintro e w2 ⟨rfl, ho2, ht2⟩
      have HO2 := hide ho2
      have HT2 := hide ht2
      clear ho2 ht2
      go_wp2
      go_roundw
      case rel =>
        have hl2 := HAT.out.inplace w2 _ HO2.out HT2.out
        rw [← hC.out, mkd_set kdL k d j x hxj.out] at hl2
        exact ⟨j + 1, by omega, by go_num, by rw [hcs.out, hC.out]; exact congrArg (Value.int .i64) (by omega), hl2, HT.out.trans (HT2.out.more (fun i hi => (HAT.out.sub i hi).1))⟩
      case measure => simp [intOf]; omega
    · go_wp2
      go_ret
      have ht : d.take j = d := List.take_of_length_le (by rw [hnd.out]; omega)
      refine ⟨ret_int (by rw [ht]), ⟨A, c, ?_, ?_⟩, HT.out⟩
      · show [Value.slice A n c] = [Value.slice A (mrkL kdL k d).length c]
        rw [mrkL_len, hnd.out]
      · have := HLO.out
        rwa [mkd_all kdL k d j (by rw [hnd.out]; exact hlt)] at this

set_option maxHeartbeats 1000000 in
theorem kdLL.held : HeldD Try.prog kdLL 124 := by
  rintro w vs d k ⟨A, c, hv, h⟩ hn hk0 hk1
  have hwt : wtL kdL d ≤ 1048576 := hn
  have hlen := wtL_len kdL d
  have HD : Hid (LR kdL w w.heap.size A c (mrkL kdL k d)) := h
  have hcap := h.1
  have hcm := h.2.1
  have hv' : vs = [.slice A d.length c] := by rw [hv]; show [Value.slice A (mrkL kdL k d).length c] = _; rw [mrkL_len]
  have hcap : d.length ≤ c := by rw [← mrkL_len kdL k d]; exact hcap
  subst hv'
  clear h hn hv
  show Calls _ _ #[.slice A d.length c, .int .i64 k] _ _
  have hcn : ((kdLL.cnt d : Nat) : Int) = (cntL kdL d : Nat) := rfl
  rw [hcn] at hk1 ⊢
  obtain ⟨n, hnd⟩ : ∃ n, Hid (d.length = n) := ⟨_, rfl⟩
  rw [hnd.out] at hlen hcap ⊢
  have hn : n ≤ 1048576 := by omega
  have HW := hide hwt
  clear hwt hlen hcn
  go_enter Try.func124, Try.ntmps124
  go_wp2
  go_loopw [1, 5] (fun q i wr => ∃ (j : Nat), j ≤ n ∧ i = .int .i64 j ∧ q = .int .i64 (k + (cntL kdL (d.take j) : Nat)) ∧ Ext w wr) (fun _ i _ => n - (intOf i).toNat)
  case atStart => exact ⟨0, Nat.zero_le _, rfl, by show _ = Value.int .i64 (k + ((0 : Nat) : Int)); simp, Ext.refl _⟩
  case round =>
    obtain ⟨j, hj, rfl, rfl, hx⟩ := hrel
    have HX := hide hx
    clear hx
    by_cases hlt : j < n
    · obtain ⟨x, hxj⟩ : ∃ x, Hid (d[j]? = some x) := ⟨_, List.getElem?_eq_getElem (by rw [hnd.out]; exact hlt)⟩
      obtain ⟨b, off, cs, rfl, hb, hrd, hc⟩ := (HD.out.ext HX.out (Nat.le_refl _)).2.2 j _ (mrkL_at kdL k d j x hxj.out)
      obtain ⟨Ak, ck, hcs0, hrk⟩ := id hrd
      subst hcs0
      obtain ⟨L, hL⟩ : ∃ L : Nat, Hid ((kdL.mrk (k + (cntL kdL (d.take j) : Nat)) x).length = L) := ⟨_, rfl⟩
      have hck : wr.cell? ⟨b, off + j, none⟩ = some (.slice Ak L ck) := by
        have := hc 0 _ rfl
        rw [show j * kdL.size + 0 = j from by show j * 1 + 0 = j; omega] at this
        rw [this, hL.out]
      have HRK := hide hrd
      rw [hL.out] at HRK
      have hca := hide (cntL_at kdL d j x hxj.out)
      have hcs := hide (cntL_succ kdL d j x hxj.out)
      clear hc hrk hrd
      obtain ⟨C, hC⟩ : ∃ C : Nat, Hid (cntL kdL (d.take j) = C) := ⟨_, rfl⟩
      rw [hC.out] at HRK ⊢
      have hCb : k + C ≤ 8589934592 := by have h1 := hca.out; rw [hC.out] at h1; omega
      go_wp2_with fail
      refine (kdL.held wr [.slice Ak L ck] x (k + C) (kdL.rd_more HRK.out HX.out.size) (Nat.le_trans (wtL_at kdL d j x hxj.out) HW.out) (by omega) (by have h1 := hca.out; rw [hC.out] at h1; omega)).mono ?_
      rintro e w2 ⟨rfl, hx2⟩
      have HX2 := hide (HX.out.trans hx2)
      have hpos : ¬ (k + (C : Int) + (kdL.cnt x : Nat) < 0) := by omega
      clear hx2
      go_wp2
      go_roundw
      case rel => exact ⟨j + 1, by omega, by go_num, by rw [hcs.out, hC.out]; exact congrArg (Value.int .i64) (by omega), HX2.out⟩
      case measure => simp [intOf]; omega
    · go_wp2
      go_ret
      have ht : d.take j = d := List.take_of_length_le (by rw [hnd.out]; omega)
      exact ⟨ret_int (by rw [ht]), HX.out⟩
end Go.Proofs.Ytmckompikbechaa
