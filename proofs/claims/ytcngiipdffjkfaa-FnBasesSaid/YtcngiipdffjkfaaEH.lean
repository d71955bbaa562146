/- Draws of lists of items: any items. -/
import Derived.Test.YtcngiipdffjkfaaEG
namespace Go.Proofs.Ytcngiipdffjkfaa
open Go.RowKit Go.Sort
set_option linter.unusedVariables false

theorem wtSS_le {p : Nat} {xs : List (List UInt8)} (h : pS p 64 xs) : kdSS.wt xs ≤ 1088 := by
  obtain ⟨_, h1, h2⟩ := h
  have h3 : ∀ ys : List (List UInt8), (∀ y ∈ ys, y.length ≤ 16) → wtL kdS ys ≤ 17 * ys.length := by
    intro ys
    induction ys with
    | nil => intro _; exact Nat.le_refl _
    | cons y t ih =>
      intro hy
      have h4 := ih (fun z hz => hy z (by simp [hz]))
      have h5 := hy y (by simp)
      show 1 + y.length + wtL kdS t ≤ 17 * (t.length + 1)
      omega
  have h6 := h3 xs h2
  show wtL kdS xs ≤ 1088
  omega
theorem pIt.wt {p : Nat} {x : ItD} (h : pIt p 64 x) : kdItem.wt x ≤ 1152 := by
  have h1 := wtSS_le h.1
  have h2 : kdL.wt x.2.1 = x.2.1.length := wtL_int _
  have h3 := h.2.1.2.1
  rw [kdItem.wt_eq]
  omega
theorem pIts.wt {p : Nat} {xs : List ItD} (hl : xs.length ≤ 64) (h : ∀ x ∈ xs, pIt p 64 x) : wtL kdItem xs ≤ 1048576 := by
  have h3 : ∀ ys : List ItD, (∀ y ∈ ys, pIt p 64 y) → wtL kdItem ys ≤ 1153 * ys.length := by
    intro ys
    induction ys with
    | nil => intro _; exact Nat.le_refl _
    | cons y t ih =>
      intro hy
      have h4 := ih (fun z hz => hy z (by simp [hz]))
      have h5 := (hy y (by simp)).wt
      show 1 + kdItem.wt y + wtL kdItem t ≤ 1153 * (t.length + 1)
      omega
  have := h3 xs h
  omega
section
variable {w0 w : World} {g M : Nat} {T : Typ} {A1 A2 A : Option Addr} {n1 c1 n2 c2 n c p : Nat} {q : Bool}
theorem it3 (h1 : ST T [.str] 9 A1 n1 c1) (h2 : ST T [.int] 3 A2 n2 c2) (p1 : p ≤ n1) (p2 : p ≤ n2) : E1 T (ksIt p) [.slice A1 n1 c1, .slice A2 n2 c2, .bool q] :=
  E1.cons (k := vS p) ⟨_, _, _, rfl, h1, p1⟩ (E1.cons (k := vI p) ⟨_, _, _, rfl, h2, p2⟩ (E1.one (k := .bool) ⟨q, rfl⟩))
theorem src3At {w : World} {H : Nat} (hH : w.heap.size = H) (a b c : Value) (t : TypeId) : ∀ j v, [a, b, c][j]? = some v → (w.alloc (.cells #[a, b, c] t)).cell? ⟨H, 0 + j, none⟩ = some v := by
  subst hH
  intro j v h
  match j, h with
  | 0, h => simp at h; subst h; simp [World.cell?_alloc_at]
  | 1, h => simp at h; subst h; simp [World.cell?_alloc_at]
  | 2, h => simp at h; subst h; simp [World.cell?_alloc_at]
  | j + 3, h => simp at h
/-- An item read. -/
theorem DS.item (h : DS w0 g 64 M T w) (h1 : ST T [.str] 9 A1 n1 c1) (h2 : ST T [.int] 3 A2 n2 c2) (q : Bool) : ∃ x, kdItem.rd w w.heap.size [.slice A1 n1 c1, .slice A2 n2 c2, .bool q] x ∧ pIt 0 64 x :=
  exp_item 0 64 _ _ _ _ h.ts (it3 h1 h2 (Nat.zero_le _) (Nat.zero_le _))
theorem DS.items (h : DS w0 g 64 M T w) (hs : ST T (ksIt p) 43 A n c) : ∃ xs, LR kdItem w w.heap.size A c xs ∧ xs.length = n ∧ (∀ x ∈ xs, pIt p 64 x) ∧ wtL kdItem xs ≤ 1048576 := by
  obtain ⟨xs, h1, h2, h3⟩ := LR.of_ST rfl (exp_item p 64) h.ts hs
  exact ⟨xs, h1, h2, h3, pIts.wt (by have := (h.ts.len hs).1; omega) h3⟩
theorem cu.itGoodT (h : DS w0 g 64 M T w) (h1 : ST T [.str] 9 A1 n1 c1) (h2 : ST T [.int] 3 A2 n2 c2) (q : Bool) :
    Calls Try.prog 65 #[.agg #[.slice A1 n1 c1, .slice A2 n2 c2, .bool q]] w fun e w' => ∃ B, e = .returned (.bool B) ∧ Ext w w' := by
  obtain ⟨x, hx, hp⟩ := h.item h1 h2 q
  refine (s.itGood_any w _ x hx (by have := hp.wt; omega)).mono ?_
  rintro e w' ⟨rfl, hk⟩
  exact ⟨_, rfl, hk⟩
end
theorem LitI {w0 w : World} {g M : Nat} {T : Typ} (h : DS w0 g 64 M T w) (zs : List Int) (hn : zs.length ≤ 64) :
    ∃ T', DS w0 g 64 M T' (w.alloc (.cells (zs.map (Value.int .i64)).toArray 3)) ∧ Stp g T w T' (w.alloc (.cells (zs.map (Value.int .i64)).toArray 3)) ∧ ST T' [.int] 3 (some ⟨w.heap.size, 0, none⟩) zs.length zs.length := by
  refine h.lit _ zs.length 3 [.int] hn (by omega) (by simp) (fun i hi j k hk => ?_)
  obtain rfl : j = 0 := by have := (List.getElem?_eq_some_iff.1 hk).1; simp at this; omega
  simp at hk
  subst hk
  exact ⟨.int .i64 zs[i], by simp [hi], ⟨_, rfl⟩⟩

set_option maxRecDepth 100000 in
set_option maxHeartbeats 4000000 in
theorem cu.anyItems_m (w0 w : World) (g M : Nat) (T : Typ) (h : DS w0 g 64 M T w) (hM : M ≤ 4611686018400000000) :
    Calls Try.prog 77 #[.pointer (some ⟨g, 0, none⟩)] w fun e w' => ∃ (T' : Typ) (A : Option Addr) (n c : Nat), e = .returned (.slice A n c) ∧ n ≤ 15 ∧ DF w0 w g 64 (M + 1000) T T' w' ∧ ST T' (ksIt 0) 43 A n c := by
  have hg := h.cg
  have D0 := hide (DF.start h)
  clear h
  go_enter Try.func77, Try.ntmps77
  go_wp2_with fail
  refine (cu.pick_m w g M 7 D0.out.ds.cu (by omega) (by unfold InR; omega)).mono ?_
  rintro e w1 ⟨r, rfl, r0, r1, -, c1, k1⟩
  have D1 := hide (D0.out.curs k1 c1)
  have r2 := r1 (by omega)
  clear c1 k1 r1 D0
  go_wp2
  go_loopw [3, 4] (fun s3 s4 wr => ∃ (k : Int) (j : Nat) (T' : Typ) (A : Option Addr) (n c : Nat), s4 = .int .i64 k ∧ s3 = .slice A n c ∧ 0 ≤ k ∧ k + j ≤ 6 ∧ n ≤ j ∧ DF w0 w g 64 (M + 2 + 110 * j) T T' wr ∧ ST T' (ksIt 0) 43 A n c) (fun s3 s4 _ => (intOf s4).toNat)
  case atStart => exact ⟨r, 0, T, none, 0, 0, by go_num, rfl, r0, by omega, by omega, D1.out, ST.none_⟩
  case round =>
    clear D1 r0 r2
    obtain ⟨k, j, T1, A, n, c, rfl, rfl, hk0, hk1, hn, df, st⟩ := hrel
    have D := hide df
    have L := hide st
    clear df st
    by_cases hlt : 0 < k
    · go_wp2_with fail
      refine (cu.anyItem_m w0 wr g _ T1 D.out.ds (by omega)).mono ?_
      rintro e w2 ⟨T2, A1, n1, c1, A2, n2, c2, q, rfl, m1, m2, f2, t1, t2⟩
      have D2 := hide (D.out.call f2)
      have L2 := hide (L.out.mono f2.sp.le)
      have T1h := hide t1
      have T2h := hide t2
      obtain ⟨b, hb⟩ : ∃ b, Hid (w2.heap.size = b) := ⟨_, rfl⟩
      have D3 := hide (D2.out.ext (Ext.alloc w2 (.cells #[.slice A1 n1 c1, .slice A2 n2 c2, .bool q] 43)))
      have B3 := hide (Bx.newAt D2.out.ds hb.out #[.slice A1 n1 c1, .slice A2 n2 c2, .bool q] 43)
      clear f2 t1 t2 D L D2
      go_upto_region 6 with fail
      rw [hb.out]
      generalize w2.alloc (.cells #[.slice A1 n1 c1, .slice A2 n2 c2, .bool q] 43) = w3 at *
      clear hb
      go_cut [20] (fun s20 wx => ∃ B, s20 = .bool B ∧ DF w0 w g 64 (M + 2 + 110 * j + 102) T T2 wx ∧ Bx g T2 wx b #[.slice A1 n1 c1, .slice A2 n2 c2, .bool q] 43)
      case first =>
        have q5 := B3.out.cell
        have f5 := B3.out.free
        go_wp2_with fail
        refine (cu.itGoodT D3.out.ds T1h.out T2h.out q).mono ?_
        rintro e w4 ⟨B, rfl, x4⟩
        have D4 := hide (D3.out.ext x4)
        have B4 := hide (B3.out.ext x4)
        clear x4 D3 B3 q5 f5
        cases B
        · go_wp2_with fail
          refine (cu.one_m w4 g _ 4 D4.out.ds.cu (by omega) (by unfold InR; omega)).mono ?_
          rintro e w5 ⟨r, rfl, c5, k5⟩
          go_wp2
          go_meet
          exact ⟨r, rfl, (D4.out.curs k5 c5).more (by omega), B4.out.curs k5⟩
        · go_wp2
          go_meet
          exact ⟨true, rfl, D4.out.more (by omega), B4.out⟩
      case rest =>
        obtain ⟨B, rfl, df, bx⟩ := hcut
        have D4 := hide df
        have B4 := hide bx
        clear df bx D3 B3
        cases B
        · go_wp2
          go_roundw
          case rel => exact ⟨k - 1, j + 1, T2, A, n, c, by go_num, rfl, by omega, by omega, by omega, D4.out.more (by omega), L2.out⟩
          case measure => simp [intOf]; omega
        · have q5 := B4.out.cell
          have f5 := B4.out.free
          have D5 := hide (D4.out.ext (Ext.alloc wc (.cells #[.slice A1 n1 c1, .slice A2 n2 c2, .bool q] 43)))
          go_wp2_with (at_builtin; refine wpList_append_T (ks := ksIt 0) (by rfl) (.tmp 21) (.tmp 23) (by rfl) elemN_item (by rfl) (by rfl) D5.out.ds.ts D5.out.ds.size L2.out (by decide) (by rfl) (src3At rfl _ _ _ _) (it3 T1h.out T2h.out (Nat.zero_le _) (Nat.zero_le _)).el (by decide) (by omega) (by decide) (by omega) ?_; intro A5 c5 w8 T5 ap; have S7 := hide (D5.out.ds.app ap); have D8 := hide (D5.out.stp S7.out.2.1 S7.out.1); clear ap)
          go_roundw
          case rel => exact ⟨k - 1, j + 1, T5, A5, n + 1, c5, by go_num, rfl, by omega, by omega, by omega, D8.out.more (by omega), S7.out.2.2⟩
          case measure => simp [intOf]; omega
    · obtain rfl : k = 0 := by omega
      go_wp2_with fail
      refine (cu.one_m wr g _ 24 D.out.ds.cu (by omega) (by unfold InR; omega)).mono ?_
      rintro e w5 ⟨r, rfl, c5, k5⟩
      have D1 := hide (D.out.curs k5 c5)
      clear c5 k5 D
      cases r
      · go_wp2
        go_ret
        exact ⟨T1, A, n, c, rfl, by omega, D1.out.more (by omega), L.out⟩
      · go_wp2_with fail
        refine (cu.pick_m w5 g _ 2 D1.out.ds.cu (by omega) (by unfold InR; omega)).mono ?_
        rintro e w6 ⟨z, rfl, z0, z1, -, c6, k6⟩
        have D2 := hide (D1.out.curs k6 c6)
        have z2 := z1 (by omega)
        clear c6 k6 z1 D1
        go_wp2
        go_loopw [3] (fun s3 wr => ∃ (T' : Typ) (A : Option Addr) (n c : Nat), s3 = .slice A n c ∧ n ≤ 15 ∧ DF w0 w g 64 (M + 800) T T' wr ∧ ST T' (ksIt 0) 43 A n c) (fun s3 _ => 15 - lenV s3)
        case atStart => exact ⟨T1, A, n, c, rfl, by omega, D2.out.more (by omega), L.out⟩
        case round =>
          clear D2 L
          obtain ⟨T3, A, n, c, rfl, hn, df, st⟩ := hrel
          have D := hide df
          have L := hide st
          clear df st
          by_cases hlt : (n : Int) < 14 + z
          · obtain ⟨T4, d4, s4, t4⟩ := D.out.ds.litS #[.string { data := #[49, 84] }] (n := 1) rfl (by omega) (by intro v hv; simp at hv; subst hv; exact ⟨_, rfl, by decide⟩)
            have D4 := hide (D.out.stp s4 d4)
            have L4 := hide (L.out.mono s4.le)
            have S4 := hide t4
            clear d4 s4 t4
            obtain ⟨T5, d5, s5, t5⟩ := LitI D4.out.ds [0] (by decide)
            have D5 := hide (D4.out.stp s5 d5)
            have L5 := hide (L4.out.mono s5.le)
            have S5 := hide (S4.out.mono s5.le)
            have Z5 := hide t5
            clear d5 s5 t5 D4 L4 S4
            have e1 : (wr.alloc (.cells #[.string { data := #[49, 84] }] 9)).heap.size = wr.heap.size + 1 := by simp
            rw [e1] at Z5
            clear e1
            have D6 := hide (D5.out.ext (Ext.alloc ((wr.alloc (.cells #[.string { data := #[49, 84] }] 9)).alloc (.cells #[.int .i64 0] 3)) (.cells #[.slice (some ⟨wr.heap.size, 0, none⟩) 1 1, .slice (some ⟨wr.heap.size + 1, 0, none⟩) 1 1, .bool false] 43)))
            go_wp2_with (at_builtin; refine wpList_append_T (ks := ksIt 0) (by rfl) (.tmp 34) (.tmp 38) (by rfl) elemN_item (by rfl) (by rfl) D6.out.ds.ts D6.out.ds.size L5.out (by decide) (by rfl) (src3At (by simp) _ _ _ _) (it3 S5.out Z5.out (Nat.zero_le _) (Nat.zero_le _)).el (by decide) (by omega) (by decide) (by omega) ?_; intro A5 c5 w8 T7 ap; have S7 := hide (D6.out.ds.app ap); have D8 := hide (D6.out.stp S7.out.2.1 S7.out.1); clear ap)
            go_roundw
            case rel => exact ⟨T7, A5, n + 1, c5, rfl, by omega, D8.out.more (by omega), S7.out.2.2⟩
            case measure => simp [lenV]; omega
          · have hc := (D.out.ds.ts.len L.out)
            have h1 := hc.2.1
            have h2 := hc.2.2
            unfold maxLen at h2
            go_wp2
            go_ret
            exact ⟨T3, A, n, c, rfl, hn, D.out.more (by omega), L.out⟩
end Go.Proofs.Ytcngiipdffjkfaa
