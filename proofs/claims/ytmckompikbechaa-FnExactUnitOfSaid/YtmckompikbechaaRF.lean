/- The element with a name; lists of items whose names are known. -/
import Derived.Test.YtmckompikbechaaRE
import Derived.Test.YtmckompikbechaaNS
namespace Go.Proofs.Ytmckompikbechaa
open Go.RowKit Go.Sort
set_option linter.unusedVariables false

theorem bs_toList (x : List UInt8) : (bs x).toList = x := Go.ByteArray.toList_mk x
def findF : List ElD → List UInt8 → Int
  | [], _ => -1
  | x :: t, nm => if x.1 == nm then 0 else if findF t nm < 0 then -1 else findF t nm + 1
def neN (nm : List UInt8) (x : ElD) : Bool := !(x.1 == nm)
theorem findF_hit {xs : List ElD} {nm : List UInt8} {k : Nat} {x : ElD} (hx : xs[k]? = some x) (h : (xs.take k).all (neN nm) = true) (h1 : (x.1 == nm) = true) : findF xs nm = k := by
  induction xs generalizing k with
  | nil => simp at hx
  | cons y t ih =>
    cases k with
    | zero => simp at hx; subst hx; simp [findF, h1]
    | succ k =>
      simp at hx
      simp only [List.take_succ_cons, List.all_cons, Bool.and_eq_true] at h
      have h2 : (y.1 == nm) = false := by have := h.1; simpa [neN] using this
      have h3 := ih hx h.2
      rw [findF, h2, h3]
      simp
      omega
theorem findF_none {xs : List ElD} {nm : List UInt8} (h : xs.all (neN nm) = true) : findF xs nm = -1 := by
  induction xs with
  | nil => rfl
  | cons y t ih =>
    simp only [List.all_cons, Bool.and_eq_true] at h
    have h2 : (y.1 == nm) = false := by have := h.1; simpa [neN] using this
    rw [findF, h2, ih h.2]
    simp
theorem findF_some {xs : List ElD} {nm : List UInt8} (h : 0 ≤ findF xs nm) : ∃ (k : Nat) (x : ElD), findF xs nm = k ∧ xs[k]? = some x ∧ x.1 = nm := by
  induction xs with
  | nil => simp [findF] at h
  | cons y t ih =>
    by_cases h2 : (y.1 == nm) = true
    · exact ⟨0, y, by simp [findF, h2], rfl, by simpa using h2⟩
    · rw [findF, if_neg h2] at h ⊢
      by_cases h3 : findF t nm < 0
      · rw [if_pos h3] at h; omega
      · rw [if_neg h3]
        obtain ⟨k, x, e1, e2, e3⟩ := ih (by omega)
        exact ⟨k + 1, x, by rw [e1]; omega, by simpa using e2, e3⟩
theorem findF_ge (xs : List ElD) (nm : List UInt8) : -1 ≤ findF xs nm := by
  by_cases h : 0 ≤ findF xs nm
  · omega
  · induction xs with
    | nil => simp [findF]
    | cons y t ih =>
      unfold findF
      split
      · omega
      · split <;> omega
theorem findF_lt (xs : List ElD) (nm : List UInt8) : findF xs nm < xs.length ∨ findF xs nm = -1 := by
  by_cases h : 0 ≤ findF xs nm
  · obtain ⟨k, x, e, hx, _⟩ := findF_some h
    have := (List.getElem?_eq_some_iff.1 hx).1
    omega
  · have := findF_ge xs nm; omega

set_option maxHeartbeats 1000000 in
theorem closFind (x : ElD) (nm : List UInt8) (g : Nat) (w : World) (hg : w.cell? ⟨g, 0, none⟩ = some (.string (bs nm))) :
    Calls Try.prog 178 #[.agg #[.string (bs x.1), .int .i64 x.2.1, .int .i64 x.2.2.1, .int .i64 x.2.2.2], .pointer (some ⟨g, 0, none⟩)] w fun e w' => e = .returned (.bool (x.1 == nm)) ∧ Ext w w' := by
  have X0 := hide (Ext.alloc w (.cells #[.string (bs x.1), .int .i64 x.2.1, .int .i64 x.2.2.1, .int .i64 x.2.2.2] 109))
  have hg2 : (w.alloc (.cells #[.string (bs x.1), .int .i64 x.2.1, .int .i64 x.2.2.1, .int .i64 x.2.2.2] 109)).cell? ⟨g, 0, none⟩ = some (.string (bs nm)) := (X0.out.cell (World.block_lt_of_cell? w _ hg)).trans hg
  have E1 : Hid (((bs x.1).toList == (bs nm).toList) = (x.1 == nm)) := by show _ = _; rw [bs_toList, bs_toList]
  clear hg
  generalize bs x.1 = xb at *
  generalize bs nm = nb at *
  generalize x.2.1 = y1 at *
  generalize x.2.2.1 = y2 at *
  generalize x.2.2.2 = y3 at *
  go_enter Try.func178, Try.ntmps178
  go_wp2
  go_ret
  exact ⟨ret_bool E1.out, X0.out⟩

set_option maxHeartbeats 1000000 in
theorem indexFind (A : Option Addr) (c B : Nat) (xs : List ElD) (nm : List UInt8) (g : Nat) (w : World) (h : LR kdEl w B A c xs) (hB : B ≤ w.heap.size) (hn : xs.length ≤ 1048576) (hg : w.cell? ⟨g, 0, none⟩ = some (.string (bs nm))) :
    Calls Try.prog 177 #[.slice A xs.length c, .func (.func 178) #[] #[.pointer (some ⟨g, 0, none⟩)]] w fun e w' => e = .returned (.int .i64 (findF xs nm)) ∧ Ext w w' := by
  have H := hide h
  have HG := hide hg
  have a1 := h.1; have a2 := h.2.1
  have gl := World.block_lt_of_cell? w _ hg
  have gl : g < w.heap.size := gl
  clear h hg
  obtain ⟨n, hnn⟩ : ∃ n, Hid (xs.length = n) := ⟨_, rfl⟩
  rw [hnn.out] at a1 hn ⊢
  go_enter Try.func177, Try.ntmps177
  go_wp2
  go_loopw [8] (fun i wr => ∃ (k : Nat), k ≤ n ∧ i = .int .i64 k ∧ (xs.take k).all (neN nm) = true ∧ Ext w wr) (fun i _ => n - (intOf i).toNat)
  case atStart => exact ⟨0, Nat.zero_le _, rfl, rfl, Ext.refl _⟩
  case round =>
    obtain ⟨k, hk, rfl, hall, hx⟩ := hrel
    have HA := hide hall
    have HX := hide hx
    clear hall hx
    by_cases hlt : k < n
    · obtain ⟨x, hxk⟩ : ∃ x, Hid (xs[k]? = some x) := ⟨_, List.getElem?_eq_getElem (by rw [hnn.out]; exact hlt)⟩
      obtain ⟨b, off, rfl, hb, u0, u1, u2, u3, xl⟩ := (H.out.ext HX.out hB).element k x hxk.out
      have CF := hide (closFind x nm g wr ((HX.out.cell gl).trans HG.out))
      cases he : (x.1 == nm)
      · rw [he] at CF
        have HN : Hid (neN nm x = true) := by show _ = _; simp [neN, he]
        clear he
        go_wp2_with fail
        refine CF.out.mono ?_
        rintro e w2 ⟨rfl, x2⟩
        replace HX := hide (HX.out.trans x2)
        clear x2 u0 u1 u2 u3
        go_wp2
        go_roundw
        case rel => exact ⟨k + 1, by omega, by go_num, allL_step hxk.out HA.out HN.out, HX.out⟩
        case measure => simp [intOf]; omega
      · rw [he] at CF
        have HF := hide (findF_hit hxk.out HA.out he)
        clear he
        go_wp2_with fail
        refine CF.out.mono ?_
        rintro e w2 ⟨rfl, x2⟩
        replace HX := hide (HX.out.trans x2)
        clear x2 u0 u1 u2 u3
        go_wp2
        go_ret
        exact ⟨ret_int HF.out.symm, HX.out⟩
    · have HF := hide (findF_none (allL_end (by rw [hnn.out]; omega) HA.out))
      go_wp2
      go_ret
      exact ⟨ret_int HF.out.symm, HX.out⟩

set_option maxRecDepth 100000 in
set_option maxHeartbeats 1000000 in
theorem i.findElement_m (w : World) (v : Value) (d : CoD) (nm : List UInt8) (h : kC.rd w v d) (hok : kC.ok d) :
    Calls Try.prog 150 #[v, .string (bs nm)] w fun e w' => e = .returned (.int .i64 (findF d.1 nm)) ∧ Ext w w' := by
  obtain ⟨A, c, A', c', rfl, h1, h2⟩ := kC.lr h
  have hok : kdCo.wt d ≤ 1048576 := hok
  rw [kdCo.wt_eq] at hok
  obtain ⟨d1, d2, r, b, p, f⟩ := d
  dsimp only at *
  have hw1 : wtL kdEl d1 ≤ 1048576 := by have : kdElS.wt d1 = wtL kdEl d1 := rfl; omega
  have k1 := wtL_len kdEl d1
  have a1 := h1.1; have a2 := h1.2.1; have a3 := h2.1; have a4 := h2.2.1
  have H1 := hide h1
  clear h h1 h2 hok
  obtain ⟨n, hn⟩ : ∃ n, Hid (d1.length = n) := ⟨_, rfl⟩
  obtain ⟨n', hn'⟩ : ∃ n', Hid (d2.length = n') := ⟨_, rfl⟩
  rw [hn.out] at k1 a1 ⊢
  rw [hn'.out] at a3 ⊢
  have n1 : n ≤ 1048576 := by omega
  clear hw1 k1
  obtain ⟨W0, hW0⟩ : ∃ W0, Hid (W0 = (w.alloc (.cells #[.slice A n c, .slice A' n' c', .int .i64 r, .int .i64 b, .int .i64 p, .int .i64 f] 59)).alloc (.cells #[.string (bs nm)] 9)) := ⟨_, rfl⟩
  have X : Hid (Ext w W0) := by rw [hW0.out]; exact (Ext.alloc w _).trans (Ext.alloc _ _)
  have B1 : Hid (Blk W0 (w.heap.size + 1) #[.string (bs nm)] 9) := by rw [hW0.out]; exact Blk.new (by simp) _ _
  have IX := indexFind A c w.heap.size d1 nm (w.heap.size + 1) W0 (H1.out.ext X.out (Nat.le_refl _)) X.out.size (by rw [hn.out]; exact n1) (B1.out.cell 0)
  rw [hn.out] at IX
  replace IX := hide IX
  generalize bs nm = nb at *
  go_enter Try.func150, Try.ntmps150
  go_wp2_with fail
  rw [← hW0.out]
  clear hW0
  refine IX.out.mono ?_
  rintro e w1 ⟨rfl, x1⟩
  replace X := hide (X.out.trans x1)
  clear x1
  go_wp2
  go_ret
  exact ⟨rfl, X.out⟩

set_option maxRecDepth 100000 in
set_option maxHeartbeats 1000000 in
theorem s.cdFind_m (w : World) (v : Value) (d : CoD) (nm : List UInt8) (h : kC.rd w v d) (hok : kC.ok d) :
    Calls Try.prog 148 #[v, .string (bs nm)] w fun e w' => e = .returned (.int .i64 (findF d.1 nm)) ∧ Ext w w' := by
  obtain ⟨A, c, A', c', rfl, h1, h2⟩ := kC.lr h
  have hok : kdCo.wt d ≤ 1048576 := hok
  rw [kdCo.wt_eq] at hok
  obtain ⟨d1, d2, r, b, p, f⟩ := d
  dsimp only at *
  have hw1 : wtL kdEl d1 ≤ 1048576 := by have : kdElS.wt d1 = wtL kdEl d1 := rfl; omega
  have k1 := wtL_len kdEl d1
  have a1 := h1.1; have a2 := h1.2.1; have a3 := h2.1; have a4 := h2.2.1
  have H1 := hide h1
  clear h h1 h2 hok
  obtain ⟨n, hn⟩ : ∃ n, Hid (d1.length = n) := ⟨_, rfl⟩
  obtain ⟨n', hn'⟩ : ∃ n', Hid (d2.length = n') := ⟨_, rfl⟩
  rw [hn.out] at k1 a1 ⊢
  rw [hn'.out] at a3 ⊢
  have n1 : n ≤ 1048576 := by omega
  clear hw1 k1
  obtain ⟨W0, hW0⟩ : ∃ W0, Hid (W0 = w.alloc (.cells #[.slice A n c, .slice A' n' c', .int .i64 r, .int .i64 b, .int .i64 p, .int .i64 f] 59)) := ⟨_, rfl⟩
  have X : Hid (Ext w W0) := by rw [hW0.out]; exact Ext.alloc w _
  have EQ : Hid (∀ x : ElD, ((bs x.1).toList == (bs nm).toList) = (x.1 == nm)) := fun x => by rw [bs_toList, bs_toList]
  generalize bs nm = nb at *
  go_enter Try.func148, Try.ntmps148
  go_wp2
  rw [← hW0.out]
  clear hW0
  go_loopw [10] (fun i wr => ∃ (k : Nat), k ≤ n ∧ i = .int .i64 k ∧ (d1.take k).all (neN nm) = true ∧ Ext w wr) (fun i _ => n - (intOf i).toNat)
  case atStart => exact ⟨0, Nat.zero_le _, rfl, rfl, X.out⟩
  case round =>
    obtain ⟨k, hk, rfl, hall, hx⟩ := hrel
    clear X
    have HA := hide hall
    have HX := hide hx
    clear hall hx
    by_cases hlt : k < n
    · obtain ⟨x, hxk⟩ : ∃ x, Hid (d1[k]? = some x) := ⟨_, List.getElem?_eq_getElem (by rw [hn.out]; exact hlt)⟩
      obtain ⟨g, off, rfl, hg, u0, u1, u2, u3, xl⟩ := (H1.out.ext HX.out (Nat.le_refl _)).element k x hxk.out
      have X2 := hide (HX.out.trans (Ext.alloc wr (.cells #[.string (bs x.1), .int .i64 x.2.1, .int .i64 x.2.2.1, .int .i64 x.2.2.2] 109)))
      have EX := EQ.out x
      cases he : (x.1 == nm)
      · rw [he] at EX
        have HN : Hid (neN nm x = true) := by show _ = _; simp [neN, he]
        clear he
        generalize bs x.1 = xb at *
        go_wp2
        go_roundw
        case rel => exact ⟨k + 1, by omega, by go_num, allL_step hxk.out HA.out HN.out, X2.out⟩
        case measure => simp [intOf]; omega
      · rw [he] at EX
        have HF := hide (findF_hit hxk.out HA.out he)
        clear he
        generalize bs x.1 = xb at *
        go_wp2
        go_ret
        exact ⟨ret_int HF.out.symm, X2.out⟩
    · have HF := hide (findF_none (allL_end (by rw [hn.out]; omega) HA.out))
      go_wp2
      go_ret
      exact ⟨ret_int HF.out.symm, HX.out⟩
end Go.Proofs.Ytmckompikbechaa
