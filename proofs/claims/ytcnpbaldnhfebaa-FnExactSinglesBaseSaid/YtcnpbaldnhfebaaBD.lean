/- A number put into an increasing list by the reference. -/
import Derived.Test.YtcnpbaldnhfebaaBC
namespace Go.Proofs.Ytcnpbaldnhfebaa
open Go.RowKit Go.Sort
set_option linter.unusedVariables false

def ltN (zs : List Int) (x : Int) : Nat := (zs.takeWhile (fun z => decide (z < x))).length
theorem ltN_le : ∀ (zs : List Int) (x : Int), ltN zs x ≤ zs.length
  | [], x => Nat.le_refl _
  | z :: t, x => by
    unfold ltN
    rw [List.takeWhile_cons]
    split
    · have := ltN_le t x; unfold ltN at this; simp only [List.length_cons]; omega
    · simp
theorem ltN_lt : ∀ (zs : List Int) (x : Int) (k : Nat), k < ltN zs x → zs.getD k 0 < x
  | [], x, k, h => by simp [ltN] at h
  | z :: t, x, k, h => by
    unfold ltN at h
    rw [List.takeWhile_cons] at h
    split at h
    · rename_i hz
      cases k with
      | zero => simpa using hz
      | succ k => exact ltN_lt t x k (by unfold ltN; simp only [List.length_cons] at h; omega)
    · simp at h
theorem ltN_ge : ∀ (zs : List Int) (x : Int), ltN zs x < zs.length → ¬ zs.getD (ltN zs x) 0 < x
  | [], x, h => by simp [ltN] at h
  | z :: t, x, h => by
    unfold ltN at h ⊢
    rw [List.takeWhile_cons] at h ⊢
    by_cases hz : z < x
    · rw [if_pos (by simpa using hz)] at h ⊢
      exact ltN_ge t x (by unfold ltN; simp only [List.length_cons] at h; omega)
    · rw [if_neg (by simpa using hz)]
      simpa using hz
def putL (zs : List Int) (x : Int) : List Int := zs.take (ltN zs x) ++ x :: zs.drop (ltN zs x)
theorem putL_len (zs : List Int) (x : Int) : (putL zs x).length = zs.length + 1 := by
  unfold putL
  have := ltN_le zs x
  simp only [List.length_append, List.length_take, List.length_cons, List.length_drop]
  omega
theorem putL_perm (zs : List Int) (x : Int) : (putL zs x).Perm (x :: zs) := by
  have h := List.perm_middle (a := x) (l₁ := zs.take (ltN zs x)) (l₂ := zs.drop (ltN zs x))
  rw [List.take_append_drop] at h
  exact h
theorem putL_sorted {zs : List Int} (x : Int) (h : zs.Pairwise (· ≤ ·)) : (putL zs x).Pairwise (· ≤ ·) := by
  have h2 := h
  rw [← List.take_append_drop (ltN zs x) zs, List.pairwise_append] at h2
  unfold putL
  have a1 : ∀ y ∈ zs.take (ltN zs x), y ≤ x := fun y hy => by
    obtain ⟨i, hi, rfl⟩ := List.getElem_of_mem hy
    rw [List.length_take] at hi
    have := ltN_lt zs x i (by omega)
    rw [List.getD_eq_getElem?_getD, List.getElem?_eq_getElem (by omega)] at this
    rw [List.getElem_take]
    exact Int.le_of_lt this
  have a2 : ∀ y ∈ zs.drop (ltN zs x), x ≤ y := fun y hy => by
    obtain ⟨i, hi, rfl⟩ := List.getElem_of_mem hy
    rw [List.length_drop] at hi
    have h3 := ltN_ge zs x (by omega)
    rw [List.getD_eq_getElem?_getD, List.getElem?_eq_getElem (by omega)] at h3
    rw [List.getElem_drop]
    have h4 : i = 0 ∨ zs[ltN zs x]'(by omega) ≤ zs[ltN zs x + i]'(by omega) := by
      by_cases e : i = 0
      · exact .inl e
      · exact .inr (List.pairwise_iff_getElem.1 h _ _ (by omega) (by omega) (by omega))
    rcases h4 with e | e
    · subst e; exact Int.not_lt.1 h3
    · exact Int.le_trans (Int.not_lt.1 h3) e
  rw [List.pairwise_append, List.pairwise_cons]
  refine ⟨h2.1, ⟨a2, h2.2.1⟩, fun y hy z hz => ?_⟩
  rcases List.mem_cons.1 hz with e | e
  · subst e; exact a1 y hy
  · exact h2.2.2 y hy z e
def putsL (zs : List Int) : List Int := zs.foldl putL []
theorem putsL_snoc (zs : List Int) (x : Int) : putsL (zs ++ [x]) = putL (putsL zs) x := by unfold putsL; rw [List.foldl_append]; rfl
theorem putsL_spec (zs : List Int) : (putsL zs).Perm zs ∧ (putsL zs).Pairwise (· ≤ ·) := by
  have : ∀ (zs out : List Int), out.Pairwise (· ≤ ·) → (zs.foldl putL out).Perm (out ++ zs) ∧ (zs.foldl putL out).Pairwise (· ≤ ·) := by
    intro zs
    induction zs with
    | nil => intro out h; exact ⟨by simp, h⟩
    | cons x t ih =>
      intro out h
      obtain ⟨p, s⟩ := ih (putL out x) (putL_sorted x h)
      refine ⟨p.trans ?_, s⟩
      refine (List.Perm.append_right t (putL_perm out x)).trans ?_
      exact List.perm_middle.symm
  have h := this zs [] List.Pairwise.nil
  rw [List.nil_append] at h
  exact h
theorem putsL_eq (zs : List Int) : putsL zs = (sortD zs).reverse := by
  have h1 := putsL_spec zs
  have h2 : (sortD zs).reverse.Pairwise (fun x y => x ≤ y) := by
    rw [List.pairwise_reverse]
    exact (sortD_sorted zs).imp (by simp)
  have h3 : (putsL zs).Perm (sortD zs).reverse := h1.1.trans ((sortD_perm zs).symm.trans (List.reverse_perm _).symm)
  exact h3.eq_of_pairwise (fun a b _ _ h1 h2 => by omega) h1.2 h2

set_option maxRecDepth 100000 in
set_option maxHeartbeats 2000000 in
theorem s.l1Put_m (A : Option Addr) (n c lo : Nat) (zs : List Int) (x : Int) (w : World) (h : OwnI 3 w lo A n c zs) (hn : n ≤ 1048576) (hx : x ∉ zs) :
    Calls Try.prog 46 #[.slice A n c, .int .i64 x] w fun e w' => ∃ A' c', e = .returned (.slice A' (n + 1) c') ∧ OwnI 3 w' w.heap.size A' (n + 1) c' (putL zs x) ∧ Ext w w' := by
  have hl := hide h.len
  have cap := h.capn; have capm := h.capm
  have HS := hide h.sl
  have L1 := hide (ltN_lt zs x)
  have L2 := hide (ltN_ge zs x)
  have L3 := ltN_le zs x
  have NE : Hid (∀ k, k < n → zs.getD k 0 ≠ x) := fun k hk e => hx (by
    have hk' : k < zs.length := by have := hl.out; omega
    rw [List.getD_eq_getElem?_getD, List.getElem?_eq_getElem hk'] at e
    exact e ▸ List.getElem_mem hk')
  have PE : Hid (putL zs x = (zs.take (ltN zs x) ++ [x]) ++ zs.drop (ltN zs x)) := by show _ = _; unfold putL; simp
  rw [hl.out] at L3
  generalize hq : ltN zs x = q at *
  have L2' : Hid (q < n → ¬ zs.getD q 0 < x) := fun hh => L2.out (by have := hl.out; omega)
  clear h hx hq L2
  go_enter Try.func46, Try.ntmps46
  go_wp2
  go_loop [5] (fun s5 => ∃ k : Nat, s5 = .int .i64 k ∧ k ≤ q) (fun s5 => q - (intOf s5).toNat)
  case atStart => exact ⟨0, by go_num, Nat.zero_le _⟩
  case round =>
    obtain ⟨k, rfl, hk⟩ := hrel
    by_cases hlt : k < q
    · obtain ⟨b, off, rfl, hb, hc⟩ := HS.out.cells (by omega)
      have ck := hc k (by omega)
      have lt := L1.out k hlt
      have i1 : (k : Int) < (n : Int) := by omega
      clear hc
      generalize zs.getD k 0 = y at *
      go_wp2
      go_round
      case rel => exact ⟨k + 1, by go_num, by omega⟩
      case measure => simp [intOf]; omega
    · have e : k = q := by omega
      subst e
      clear L1
      rcases Nat.eq_zero_or_pos k with h0 | h0
      · subst h0
        have TK : Hid (SlI w w.heap.size A 0 (zs.take 0)) := Sl.nil
        have SD : Hid (SlI w w.heap.size A n (zs.drop 0)) := HS.out
        by_cases hkn : 0 < n
        · obtain ⟨b, off, rfl, hb, hc⟩ := HS.out.cells (by omega)
          have ck := hc 0 hkn
          rw [Nat.add_zero] at ck
          have ge := L2'.out hkn
          have ne := NE.out 0 hkn
          have i1 : (0 : Int) < (n : Int) := by omega
          clear hc
          generalize zs.getD 0 0 = y at *
          have hge : ¬ y < x := Int.not_lt.2 ge
          have hne : (y == x) = false := by simpa using ne
          go_wp2_with (at_builtin; refine wpList_append_sl rfl (.tmp 34) (.tmp 37) rfl elem_int rfl rfl (lo := w.heap.size) (Own.empty w 3 (Nat.le_refl _)) (SlI.alloc TK.out (Nat.le_refl _) _) (oneCell_ints _) (by omega) (by omega) (by first | omega | (simp; done) | (simp; omega)) ?_)
          intro A1 c1 w1 hap1
          have X1 := hide (hap1.ext (Ext.alloc w _) (fun p hp => by injection hp with hp; subst hp; exact Nat.le_refl _))
          have O1 : Hid (OwnI 3 w1 w.heap.size A1 0 c1 (zs.take 0)) := own_conv hap1.own (Nat.le_refl _) (by omega) (by first | (simp; done) | (simp [List.map_take]; done))
          clear hap1
          have s1 := X1.out.size
          have SD1 := hide (Sl.ext' SD.out X1.out)
          go_wp2_with (at_builtin; refine wpList_append_sl rfl (.tmp 39) (.tmp 41) rfl elem_int rfl rfl (lo := w.heap.size) (Own.alloc O1.out (.cells #[.int .i64 x] 3)) (Sl.one w1 (.int .i64 x) 3) (one_int _) (by omega) (by omega) (by first | omega | (simp; done) | (simp; omega)) ?_)
          intro A2 c2 w2 hap2
          have X2 := hide (hap2.ext (X1.out.trans (Ext.alloc w1 _)) (Own.fromLo O1.out))
          have O2 : Hid (OwnI 3 w2 w.heap.size A2 (0 + 1) c2 ((zs.take 0) ++ [x])) := own_conv hap2.own (Nat.le_refl _) rfl (by first | (simp; done) | (simp [List.map_take]; done))
          clear hap2
          have s2 := X2.out.size
          have SD2 := hide (Sl.ext' SD.out X2.out)
          go_wp2_with (at_builtin; refine wpList_append_sl rfl (.tmp 43) (.tmp 46) rfl elem_int rfl rfl (lo := w.heap.size) O2.out SD2.out (oneCell_ints _) (by omega) (by omega) (by first | omega | (simp; done) | (simp; omega)) ?_)
          intro A3 c3 w3 hap3
          have X3 := hide (hap3.ext X2.out (Own.fromLo O2.out))
          have O3 : Hid (OwnI 3 w3 w.heap.size A3 (n + 1) c3 (putL zs x)) := own_conv hap3.own (Nat.le_refl _) (by omega) (by rw [PE.out]; first | (simp; done) | (simp [List.map_drop]; done) | (simp [List.map_take]; done) | (simp [List.map_take, List.map_drop]; done))
          clear hap3
          go_wp2
          go_ret
          exact ⟨A3, c3, congrArg (fun m => Ending.returned (Value.slice A3 m c3)) (by omega), O3.out, X3.out⟩
        · have n0 : n = 0 := by omega
          subst n0
          go_wp2_with (at_builtin; refine wpList_append_sl rfl (.tmp 34) (.tmp 37) rfl elem_int rfl rfl (lo := w.heap.size) (Own.empty w 3 (Nat.le_refl _)) (SlI.alloc TK.out (Nat.le_refl _) _) (oneCell_ints _) (by omega) (by omega) (by first | omega | (simp; done) | (simp; omega)) ?_)
          intro A1 c1 w1 hap1
          have X1 := hide (hap1.ext (Ext.alloc w _) (fun p hp => by injection hp with hp; subst hp; exact Nat.le_refl _))
          have O1 : Hid (OwnI 3 w1 w.heap.size A1 0 c1 (zs.take 0)) := own_conv hap1.own (Nat.le_refl _) (by omega) (by first | (simp; done) | (simp [List.map_take]; done))
          clear hap1
          have s1 := X1.out.size
          have SD1 := hide (Sl.ext' SD.out X1.out)
          go_wp2_with (at_builtin; refine wpList_append_sl rfl (.tmp 39) (.tmp 41) rfl elem_int rfl rfl (lo := w.heap.size) (Own.alloc O1.out (.cells #[.int .i64 x] 3)) (Sl.one w1 (.int .i64 x) 3) (one_int _) (by omega) (by omega) (by first | omega | (simp; done) | (simp; omega)) ?_)
          intro A2 c2 w2 hap2
          have X2 := hide (hap2.ext (X1.out.trans (Ext.alloc w1 _)) (Own.fromLo O1.out))
          have O2 : Hid (OwnI 3 w2 w.heap.size A2 (0 + 1) c2 ((zs.take 0) ++ [x])) := own_conv hap2.own (Nat.le_refl _) rfl (by first | (simp; done) | (simp [List.map_take]; done))
          clear hap2
          have s2 := X2.out.size
          have SD2 := hide (Sl.ext' SD.out X2.out)
          go_wp2_with (at_builtin; refine wpList_append_sl rfl (.tmp 43) (.tmp 46) rfl elem_int rfl rfl (lo := w.heap.size) O2.out SD2.out (oneCell_ints _) (by omega) (by omega) (by first | omega | (simp; done) | (simp; omega)) ?_)
          intro A3 c3 w3 hap3
          have X3 := hide (hap3.ext X2.out (Own.fromLo O2.out))
          have O3 : Hid (OwnI 3 w3 w.heap.size A3 (0 + 1) c3 (putL zs x)) := own_conv hap3.own (Nat.le_refl _) (by omega) (by rw [PE.out]; first | (simp; done) | (simp [List.map_drop]; done) | (simp [List.map_take]; done) | (simp [List.map_take, List.map_drop]; done))
          clear hap3
          go_wp2
          go_ret
          exact ⟨A3, c3, congrArg (fun m => Ending.returned (Value.slice A3 m c3)) (by omega), O3.out, X3.out⟩
      · have TK : Hid (SlI w w.heap.size A k (zs.take k)) := by
          have h2 := Sl.cutTo (k := k) HS.out (by omega)
          rw [← List.map_take] at h2
          exact h2
        obtain ⟨b, off, rfl, hb, hc⟩ := HS.out.cells (by omega)
        have q1 : (k : Int) ≤ n := by omega
        have q2 : (k : Int) ≤ c := by omega
        have SD : Hid (Sl w w.heap.size (if c = k then some ⟨b, off, none⟩ else some ⟨b, off + k, none⟩) (n - k) ((zs.drop k).map (Value.int .i64))) := by
          show Sl _ _ _ _ _
          rw [List.map_drop]
          exact Sl.cutFrom HS.out (by omega) (fun h => by rw [if_neg (by omega)])
        by_cases hkn : k < n
        · have ck := hc k hkn
          have ge := L2'.out hkn
          have ne := NE.out k hkn
          have i1 : (k : Int) < (n : Int) := by omega
          have hcc : ¬ c = k := by omega
          rw [if_neg hcc] at SD
          clear hc
          generalize zs.getD k 0 = y at *
          have hge : ¬ y < x := Int.not_lt.2 ge
          have hne : (y == x) = false := by simpa using ne
          go_wp2_with (at_builtin; refine wpList_append_sl rfl (.tmp 34) (.tmp 37) rfl elem_int rfl rfl (lo := w.heap.size) (Own.empty w 3 (Nat.le_refl _)) (SlI.alloc TK.out (Nat.le_refl _) _) (oneCell_ints _) (by omega) (by omega) (by first | omega | (simp; done) | (simp; omega)) ?_)
          intro A1 c1 w1 hap1
          have X1 := hide (hap1.ext (Ext.alloc w _) (fun p hp => by injection hp with hp; subst hp; exact Nat.le_refl _))
          have O1 : Hid (OwnI 3 w1 w.heap.size A1 k c1 (zs.take k)) := own_conv hap1.own (Nat.le_refl _) (by omega) (by first | (simp; done) | (simp [List.map_take]; done))
          clear hap1
          have s1 := X1.out.size
          have SD1 := hide (Sl.ext' SD.out X1.out)
          go_wp2_with (at_builtin; refine wpList_append_sl rfl (.tmp 39) (.tmp 41) rfl elem_int rfl rfl (lo := w.heap.size) (Own.alloc O1.out (.cells #[.int .i64 x] 3)) (Sl.one w1 (.int .i64 x) 3) (one_int _) (by omega) (by omega) (by first | omega | (simp; done) | (simp; omega)) ?_)
          intro A2 c2 w2 hap2
          have X2 := hide (hap2.ext (X1.out.trans (Ext.alloc w1 _)) (Own.fromLo O1.out))
          have O2 : Hid (OwnI 3 w2 w.heap.size A2 (k + 1) c2 ((zs.take k) ++ [x])) := own_conv hap2.own (Nat.le_refl _) rfl (by first | (simp; done) | (simp [List.map_take]; done))
          clear hap2
          have s2 := X2.out.size
          have SD2 := hide (Sl.ext' SD.out X2.out)
          go_wp2_with (at_builtin; refine wpList_append_sl rfl (.tmp 43) (.tmp 46) rfl elem_int rfl rfl (lo := w.heap.size) O2.out SD2.out (oneCell_ints _) (by omega) (by omega) (by first | omega | (simp; done) | (simp; omega)) ?_)
          intro A3 c3 w3 hap3
          have X3 := hide (hap3.ext X2.out (Own.fromLo O2.out))
          have O3 : Hid (OwnI 3 w3 w.heap.size A3 (n + 1) c3 (putL zs x)) := own_conv hap3.own (Nat.le_refl _) (by omega) (by rw [PE.out]; first | (simp; done) | (simp [List.map_drop]; done) | (simp [List.map_take]; done) | (simp [List.map_take, List.map_drop]; done))
          clear hap3
          go_wp2
          go_ret
          exact ⟨A3, c3, congrArg (fun m => Ending.returned (Value.slice A3 m c3)) (by omega), O3.out, X3.out⟩
        · have n0 : n = k := by omega
          subst n0
          clear hc
          by_cases hcc : c = n
          · rw [if_pos hcc, Nat.sub_self] at SD
            go_wp2_with (at_builtin; refine wpList_append_sl rfl (.tmp 34) (.tmp 37) rfl elem_int rfl rfl (lo := w.heap.size) (Own.empty w 3 (Nat.le_refl _)) (SlI.alloc TK.out (Nat.le_refl _) _) (oneCell_ints _) (by omega) (by omega) (by first | omega | (simp; done) | (simp; omega)) ?_)
            intro A1 c1 w1 hap1
            have X1 := hide (hap1.ext (Ext.alloc w _) (fun p hp => by injection hp with hp; subst hp; exact Nat.le_refl _))
            have O1 : Hid (OwnI 3 w1 w.heap.size A1 n c1 (zs.take n)) := own_conv hap1.own (Nat.le_refl _) (by omega) (by first | (simp; done) | (simp [List.map_take]; done))
            clear hap1
            have s1 := X1.out.size
            have SD1 := hide (Sl.ext' SD.out X1.out)
            go_wp2_with (at_builtin; refine wpList_append_sl rfl (.tmp 39) (.tmp 41) rfl elem_int rfl rfl (lo := w.heap.size) (Own.alloc O1.out (.cells #[.int .i64 x] 3)) (Sl.one w1 (.int .i64 x) 3) (one_int _) (by omega) (by omega) (by first | omega | (simp; done) | (simp; omega)) ?_)
            intro A2 c2 w2 hap2
            have X2 := hide (hap2.ext (X1.out.trans (Ext.alloc w1 _)) (Own.fromLo O1.out))
            have O2 : Hid (OwnI 3 w2 w.heap.size A2 (n + 1) c2 ((zs.take n) ++ [x])) := own_conv hap2.own (Nat.le_refl _) rfl (by first | (simp; done) | (simp [List.map_take]; done))
            clear hap2
            have s2 := X2.out.size
            have SD2 := hide (Sl.ext' SD.out X2.out)
            go_wp2_with (at_builtin; refine wpList_append_sl rfl (.tmp 43) (.tmp 46) rfl elem_int rfl rfl (lo := w.heap.size) O2.out SD2.out (oneCell_ints _) (by omega) (by omega) (by first | omega | (simp; done) | (simp; omega)) ?_)
            intro A3 c3 w3 hap3
            have X3 := hide (hap3.ext X2.out (Own.fromLo O2.out))
            have O3 : Hid (OwnI 3 w3 w.heap.size A3 (n + 1) c3 (putL zs x)) := own_conv hap3.own (Nat.le_refl _) (by omega) (by rw [PE.out]; first | (simp; done) | (simp [List.map_drop]; done) | (simp [List.map_take]; done) | (simp [List.map_take, List.map_drop]; done))
            clear hap3
            go_wp2
            go_ret
            exact ⟨A3, c3, congrArg (fun m => Ending.returned (Value.slice A3 m c3)) (by omega), O3.out, X3.out⟩
          · rw [if_neg hcc, Nat.sub_self] at SD
            go_wp2_with (at_builtin; refine wpList_append_sl rfl (.tmp 34) (.tmp 37) rfl elem_int rfl rfl (lo := w.heap.size) (Own.empty w 3 (Nat.le_refl _)) (SlI.alloc TK.out (Nat.le_refl _) _) (oneCell_ints _) (by omega) (by omega) (by first | omega | (simp; done) | (simp; omega)) ?_)
            intro A1 c1 w1 hap1
            have X1 := hide (hap1.ext (Ext.alloc w _) (fun p hp => by injection hp with hp; subst hp; exact Nat.le_refl _))
            have O1 : Hid (OwnI 3 w1 w.heap.size A1 n c1 (zs.take n)) := own_conv hap1.own (Nat.le_refl _) (by omega) (by first | (simp; done) | (simp [List.map_take]; done))
            clear hap1
            have s1 := X1.out.size
            have SD1 := hide (Sl.ext' SD.out X1.out)
            go_wp2_with (at_builtin; refine wpList_append_sl rfl (.tmp 39) (.tmp 41) rfl elem_int rfl rfl (lo := w.heap.size) (Own.alloc O1.out (.cells #[.int .i64 x] 3)) (Sl.one w1 (.int .i64 x) 3) (one_int _) (by omega) (by omega) (by first | omega | (simp; done) | (simp; omega)) ?_)
            intro A2 c2 w2 hap2
            have X2 := hide (hap2.ext (X1.out.trans (Ext.alloc w1 _)) (Own.fromLo O1.out))
            have O2 : Hid (OwnI 3 w2 w.heap.size A2 (n + 1) c2 ((zs.take n) ++ [x])) := own_conv hap2.own (Nat.le_refl _) rfl (by first | (simp; done) | (simp [List.map_take]; done))
            clear hap2
            have s2 := X2.out.size
            have SD2 := hide (Sl.ext' SD.out X2.out)
            go_wp2_with (at_builtin; refine wpList_append_sl rfl (.tmp 43) (.tmp 46) rfl elem_int rfl rfl (lo := w.heap.size) O2.out SD2.out (oneCell_ints _) (by omega) (by omega) (by first | omega | (simp; done) | (simp; omega)) ?_)
            intro A3 c3 w3 hap3
            have X3 := hide (hap3.ext X2.out (Own.fromLo O2.out))
            have O3 : Hid (OwnI 3 w3 w.heap.size A3 (n + 1) c3 (putL zs x)) := own_conv hap3.own (Nat.le_refl _) (by omega) (by rw [PE.out]; first | (simp; done) | (simp [List.map_drop]; done) | (simp [List.map_take]; done) | (simp [List.map_take, List.map_drop]; done))
            clear hap3
            go_wp2
            go_ret
            exact ⟨A3, c3, congrArg (fun m => Ending.returned (Value.slice A3 m c3)) (by omega), O3.out, X3.out⟩
end Go.Proofs.Ytcnpbaldnhfebaa
