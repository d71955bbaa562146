import Derived.Test.YteagigjljejjiaaTB
import Derived.IntWalk
namespace Go.Proofs.Yteagigjljejjiaa
open Go.RowKit

theorem drop_rev (l : List Int) (m : Nat) (h : m < l.length) : (l.drop (m + 1)).reverse ++ [l.getD m 0] = (l.drop m).reverse := by
  rw [List.drop_eq_getElem_cons h, List.reverse_cons]
  simp [h]

set_option maxHeartbeats 1000000 in
theorem s.tmOrder_any (A : Option Addr) (n c B : Nat) (zs : List Int) (w : World) (h : SlI w B A n zs) (hB : B ≤ w.heap.size) (hn : n ≤ 1048576) :
    Calls Try.prog 51 #[.slice A n c] w fun e w' => ∃ A' c', e = .returned (.slice A' n c') ∧ OwnI 3 w' w.heap.size A' n c' (sortD zs).reverse ∧ Ext w w' := by
  have hl : Hid ((sortD zs).length = n) := by show _ = _; rw [sortD_len, h.len]
  go_enter Try.func51, Try.ntmps51
  go_wp2_with fail
  refine (s.poSorted_any _ _ _ _ zs _ h hB hn).mono ?_
  rintro e w1 ⟨S, c1, rfl, ho, hx⟩
  have HO := hide ho
  have HX := hide hx
  have sz1 := hx.size
  clear ho hx h
  generalize hss : sortD zs = s at *
  have HSS := hide hss
  clear hss
  go_wp2
  go_loopw [4, 5] (fun o i wr => ∃ (m : Nat) (A' : Option Addr) (c' : Nat), m ≤ n ∧ i = .int .i64 ((m : Int) - 1) ∧ o = .slice A' (n - m) c' ∧ OwnI 3 wr w1.heap.size A' (n - m) c' (s.drop m).reverse ∧ Ext w1 wr) (fun _ i _ => (intOf i + 1).toNat)
  case atStart => exact ⟨n, none, 0, Nat.le_refl _, rfl, by rw [Nat.sub_self], by rw [← hl.out]; simp only [Nat.sub_self, List.drop_length, List.reverse_nil]; exact OwnI.nil, Ext.refl _⟩
  case round =>
    obtain ⟨m, A', c', hm, rfl, rfl, hown, hxr⟩ := hrel
    have HR := hide hown
    have HXR := hide hxr
    have szr := hxr.size
    clear hown hxr
    cases m with
    | zero =>
      go_wp2
      go_ret
      refine ⟨A', c', by simp, own_conv HR.out sz1 (by omega) (by simp [HSS.out]), HX.out.trans HXR.out⟩
    | succ m' =>
      rw [show ((m' + 1 : Nat) : Int) - 1 = (m' : Int) by omega]
      obtain ⟨b, off, rfl, hb, hc⟩ := (HO.out.sl.ext HXR.out (Nat.le_refl _)).cells (by omega)
      have hck := hc m' (by omega)
      have hdr := hide (drop_rev s m' (by have := hl.out; omega))
      clear hc
      generalize s.getD m' 0 = x at *
      go_wp2_with (at_builtin; refine wpList_append_sl rfl (.tmp 15) (.tmp 20) rfl elem_int rfl rfl (HR.out.alloc _) (Sl.one wr (.int .i64 x) 3) (one_int x) ?c1 ?c2 ?c3 ?_)
      case c1 => omega
      case c2 => omega
      case c3 => simp; omega
      intro A2 c2 w2 hap
      go_wp2
      go_roundw
      case rel => exact ⟨m', A2, c2, by omega, rfl, congrArg (fun m => Value.slice A2 m c2) (by omega), own_conv hap.own (Nat.le_refl _) (by omega) (by rw [← hdr.out]; simp), hap.ext (HXR.out.trans (Ext.alloc _ _)) HR.out.fromLo⟩
      case measure => simp [intOf]

/-! ### Fractions -/
theorem gcd_step (X Y : Nat) : Nat.gcd Y (X % Y) = Nat.gcd X Y := by rw [Nat.gcd_comm X Y, Nat.gcd_rec Y X, Nat.gcd_comm]

theorem tmod_nat (X Y : Nat) : (X : Int).tmod (Y : Int) = ((X % Y : Nat) : Int) := rfl

set_option maxHeartbeats 400000 in
theorem i.gcdOf_any (a b : Int) (w : World) (ha : -4611686018427387904 ≤ a) (ha' : a ≤ 4611686018427387904) (hb : 0 < b) (hb' : b ≤ 4611686018427387904) :
    Calls Try.prog 71 #[.int .i64 a, .int .i64 b] w fun e w' => e = .returned (.int .i64 (gcdI a b)) ∧ ∃ m, w' = w.drewN m := by
  obtain ⟨Y, rfl⟩ := Int.eq_ofNat_of_zero_le (Int.le_of_lt hb)
  rcases (show a < 0 ∨ 0 ≤ a by omega) with h | h
  · obtain ⟨X, hX⟩ := Int.eq_ofNat_of_zero_le (show 0 ≤ -a by omega)
    obtain rfl : a = -(X : Int) := by omega
    clear hX
    have hX0 : (0 : Int) < X := by omega
    have hg : Hid (gcdI (-(X : Int)) (Y : Int) = Nat.gcd X Y) := by show _ = _; simp [gcdI]
    generalize gcdI (-(X : Int)) (Y : Int) = G at *
    go_enter Try.func71, Try.ntmps71
    go_wp2
    go_loopw [0, 1] (fun p q wr => ∃ (x y m : Nat), p = .int .i64 x ∧ q = .int .i64 y ∧ Nat.gcd x y = G ∧ x ≤ 4611686018427387904 ∧ y ≤ 4611686018427387904 ∧ wr = w.drewN m) (fun _ q _ => (intOf q).toNat)
    case atStart => exact ⟨X, Y, 0, rfl, rfl, hg.out.symm, by omega, by omega, rfl⟩
    case round =>
      obtain ⟨x, y, m, rfl, rfl, hxy, hx, hy, rfl⟩ := hrel
      have HG := hide hxy
      clear hxy
      by_cases h0 : y = 0
      · subst h0
        go_wp2
        go_ret
        exact ⟨ret_int (by rw [← HG.out]; simp), m, rfl⟩
      · have hne : ((y : Int) != 0) = true := by simp; omega
        have hne' : ¬ (y : Int) = 0 := by omega
        have hlt : x % y < y := Nat.mod_lt _ (by omega)
        have ht := tmod_nat x y
        go_wp2
        go_quiet (fail)
        go_wp2
        go_roundw
        case rel => exact ⟨y, x % y, m + nq, rfl, rfl, by rw [gcd_step]; exact HG.out, hy, by omega, by first | rfl | exact World.drewN_drewN _ _ _⟩
        case measure => simp [intOf]; omega
  · obtain ⟨X, rfl⟩ := Int.eq_ofNat_of_zero_le h
    have hg : Hid (gcdI (X : Int) (Y : Int) = Nat.gcd X Y) := by show _ = _; simp [gcdI]
    generalize gcdI (X : Int) (Y : Int) = G at *
    go_enter Try.func71, Try.ntmps71
    go_wp2
    go_loopw [0, 1] (fun p q wr => ∃ (x y m : Nat), p = .int .i64 x ∧ q = .int .i64 y ∧ Nat.gcd x y = G ∧ x ≤ 4611686018427387904 ∧ y ≤ 4611686018427387904 ∧ wr = w.drewN m) (fun _ q _ => (intOf q).toNat)
    case atStart => exact ⟨X, Y, 0, rfl, rfl, hg.out.symm, by omega, by omega, rfl⟩
    case round =>
      obtain ⟨x, y, m, rfl, rfl, hxy, hx, hy, rfl⟩ := hrel
      have HG := hide hxy
      clear hxy
      by_cases h0 : y = 0
      · subst h0
        go_wp2
        go_ret
        exact ⟨ret_int (by rw [← HG.out]; simp), m, rfl⟩
      · have hne : ((y : Int) != 0) = true := by simp; omega
        have hne' : ¬ (y : Int) = 0 := by omega
        have hlt : x % y < y := Nat.mod_lt _ (by omega)
        have ht := tmod_nat x y
        go_wp2
        go_quiet (fail)
        go_wp2
        go_roundw
        case rel => exact ⟨y, x % y, m + nq, rfl, rfl, by rw [gcd_step]; exact HG.out, hy, by omega, by first | rfl | exact World.drewN_drewN _ _ _⟩
        case measure => simp [intOf]; omega

def mostF (a b : Int) : Int := if b < a then a else b
theorem s.l1Most_any (a b : Int) (w : World) : Calls Try.prog 64 #[.int .i64 a, .int .i64 b] w fun e w' => e = .returned (.int .i64 (max a b)) ∧ w = w' := by
  go_enter Try.func64, Try.ntmps64
  go_wp2
  all_goals go_ret
  · exact ⟨ret_int (by omega), rfl⟩
  · exact ⟨ret_int (by omega), rfl⟩
theorem s.l1Abs_any (a : Int) (w : World) (ha : -4611686018427387904 ≤ a) (ha' : a ≤ 4611686018427387904) : Calls Try.prog 65 #[.int .i64 a] w fun e w' => e = .returned (.int .i64 (max a (-a))) ∧ w = w' := by
  go_enter Try.func65, Try.ntmps65
  go_wp2_with (go_at_call 64; refine (s.l1Most_any _ _ _).mono ?_; rintro e w1 ⟨rfl, rfl⟩)
  go_ret
  exact ⟨rfl, rfl⟩
end Go.Proofs.Yteagigjljejjiaa
