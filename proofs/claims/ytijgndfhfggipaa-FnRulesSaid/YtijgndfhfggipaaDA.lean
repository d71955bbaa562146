/- The generator's cursor: a byte drawn. -/
import Derived.Test.YtijgndfhfggipaaGB
import Derived.OpenShut
import Derived.Test.YtijgndfhfggipaaGA
namespace Go.Proofs.Ytijgndfhfggipaa
open Go.RowKit Go.Sort
set_option linter.unusedVariables false

/-- A cursor in block g, at most N bytes drawn. -/
def Cur (w : World) (g N : Nat) : Prop := ∃ (A : Option Addr) (n c at_ : Nat) (seed : Int), Blk w g #[.slice A n c, .int .i64 at_, .int .u64 seed] 54 ∧ at_ ≤ N ∧ n ≤ 9223372036854775807 ∧ 0 ≤ seed ∧ seed ≤ 18446744073709551615 ∧
  (0 < n → ∃ b off, A = some ⟨b, off, none⟩ ∧ b < g ∧ ∀ k, k < n → ∃ x, w.cell? ⟨b, off + k, none⟩ = some (.int .u8 x) ∧ 0 ≤ x ∧ x ≤ 255)
theorem Cur.more {w : World} {g N M : Nat} (h : Cur w g N) (hm : N ≤ M) : Cur w g M := by
  obtain ⟨A, n, c, a, s, hb, h1, h2⟩ := h
  exact ⟨A, n, c, a, s, hb, by omega, h2⟩
theorem Cur.lt {w : World} {g N : Nat} (h : Cur w g N) : g < w.heap.size := by
  obtain ⟨A, n, c, a, s, hb, h1, h2⟩ := h
  exact hb.lt
theorem Cur.tchF {w w' : World} {g N : Nat} {fp : List Nat} (h : Cur w g N) (k : TchF fp w w') (hd : ∀ i ∈ fp, g < i) : Cur w' g N := by
  obtain ⟨A, n, c, a, s, hb, h1, h2, h3, h4, h5⟩ := h
  have hg := hb.lt
  refine ⟨A, n, c, a, s, hb.tchF k (fun hm => by have := hd g hm; omega), h1, h2, h3, h4, fun hn => ?_⟩
  obtain ⟨b, off, e, hbg, hc⟩ := h5 hn
  refine ⟨b, off, e, hbg, fun j hj => ?_⟩
  obtain ⟨x, hx, h6⟩ := hc j hj
  exact ⟨x, (World.cell?_of_block (k.block b (by omega) (fun hm => by have := hd b hm; omega))).trans hx, h6⟩
theorem Cur.ext {w w' : World} {g N : Nat} (h : Cur w g N) (k : Ext w w') : Cur w' g N := h.tchF (TchF.of_ext k (fp := [])) (by simp)

theorem and255 (E : Int) (h0 : 0 ≤ E) (h1 : E ≤ 18446744073709551615) : 0 ≤ bits BinOp.and IntKind.u64 E 255 ∧ bits BinOp.and IntKind.u64 E 255 ≤ 255 := by
  have h := bits_and_u64_nat E.toNat 255 (by omega) (by omega)
  rw [Int.toNat_of_nonneg h0] at h
  have h2 : E.toNat &&& 255 ≤ 255 := Nat.and_le_right
  have h3 : bits BinOp.and IntKind.u64 E 255 = ((E.toNat &&& 255 : Nat) : Int) := h
  rw [h3]
  omega

theorem TchF.put {fp : List Nat} (w : World) (p : Addr) (v : Value) (hp : p.block ∈ fp) : TchF fp w (w.setCell p v) := by
  have h := Below.setCell (Below.refl 0 w) (Nat.zero_le p.block) v
  exact ⟨h.os, h.tape, h.output, h.size, fun k hk hr => Below.heap_setCell _ _ _ _ (fun e => hr (e ▸ hp))⟩
theorem u64_wrap_bd (x : Int) : 0 ≤ IntKind.u64.wrap x ∧ IntKind.u64.wrap x ≤ 18446744073709551615 := bounds_u64 (wf_wrap _ _)
theorem Cur.next {w w9 : World} {g N n c a : Nat} {A : Option Addr} {s S : Int} (hb : Blk w g #[.slice A n c, .int .i64 a, .int .u64 s] 54) (h1 : a ≤ N) (h2 : n ≤ 9223372036854775807) (hS : 0 ≤ S ∧ S ≤ 18446744073709551615)
    (h5 : 0 < n → ∃ b off, A = some ⟨b, off, none⟩ ∧ b < g ∧ ∀ k, k < n → ∃ x, w.cell? ⟨b, off + k, none⟩ = some (.int .u8 x) ∧ 0 ≤ x ∧ x ≤ 255) (hx : Ext ((w.setCell ⟨g, 1, none⟩ (.int .i64 ((a : Int) + 1))).setCell ⟨g, 2, none⟩ (.int .u64 S)) w9) :
    Cur w9 g (N + 1) ∧ TchF [g] w w9 := by
  have k1 := TchF.put w ⟨g, 1, none⟩ (.int .i64 ((a : Int) + 1)) (fp := [g]) (by simp)
  have k2 := TchF.put (w.setCell ⟨g, 1, none⟩ (.int .i64 ((a : Int) + 1))) ⟨g, 2, none⟩ (.int .u64 S) (fp := [g]) (by simp)
  have k := (k1.trans k2).trans (TchF.of_ext hx)
  refine ⟨⟨A, n, c, a + 1, S, ?_, by omega, h2, hS.1, hS.2, fun hn => ?_⟩, k⟩
  · have b2 := ((hb.set 1 (.int .i64 ((a : Int) + 1))).set 2 (.int .u64 S)).ext hx
    exact b2
  · obtain ⟨b, off, e, hbg, hc⟩ := h5 hn
    have hg := hb.lt
    refine ⟨b, off, e, hbg, fun j hj => ?_⟩
    obtain ⟨x, hx, h6⟩ := hc j hj
    exact ⟨x, (World.cell?_of_block (k.block b (by omega) (fun hm => by simp at hm; omega))).trans hx, h6⟩

set_option maxRecDepth 100000 in
set_option maxHeartbeats 1000000 in
theorem cu.next_m (w : World) (g N : Nat) (h : Cur w g N) (hN : N ≤ 4611686018427387904) :
    Calls Try.prog 74 #[.pointer (some ⟨g, 0, none⟩)] w fun e w' => ∃ r, e = .returned (.int .i64 r) ∧ 0 ≤ r ∧ r ≤ 255 ∧ Cur w' g (N + 1) ∧ TchF [g] w w' := by
  obtain ⟨A, n, c, a, s, hb, h1, h2, h3, h4, h5⟩ := h
  have B := hide hb
  have c0 := hb.cell 0; have c1 := hb.cell 1; have c2 := hb.cell 2
  simp at c0 c1 c2
  have fz := hb.free
  clear hb
  by_cases hlt : a < n
  · obtain ⟨b, off, rfl, hbg, hc⟩ := h5 (by omega)
    have C5 := hide hc
    obtain ⟨x, hx, x0, x1⟩ := hc a hlt
    have i1 : (a : Int) < (n : Int) := by omega
    clear hc h5
    go_enter Try.func74, Try.ntmps74
    go_wp2
    go_region
    go_wp2
    go_region
    go_wp2
    go_region
    go_wp2
    go_ret
    obtain ⟨S, hS⟩ : ∃ S, S = IntKind.u64.wrap (IntKind.u64.wrap (IntKind.u64.wrap (s * 6364136223846793005) + x) + 1442695040888963407) := ⟨_, rfl⟩
    rw [← hS]
    have sb := u64_wrap_bd (IntKind.u64.wrap (IntKind.u64.wrap (s * 6364136223846793005) + x) + 1442695040888963407)
    rw [← hS] at sb
    exact ⟨x, rfl, x0, x1, Cur.next B.out (by omega) h2 sb (fun _ => ⟨b, off, rfl, hbg, C5.out⟩) ((Ext.drew _).trans ((Ext.drew _).trans (Ext.drew _)))⟩
  · have C5 := hide h5
    clear h5
    go_enter Try.func74, Try.ntmps74
    go_wp2
    go_region
    go_wp2
    go_region
    go_wp2
    obtain ⟨S, hS⟩ : ∃ S, S = IntKind.u64.wrap (IntKind.u64.wrap (IntKind.u64.wrap (s * 6364136223846793005)) + 1442695040888963407) := ⟨_, rfl⟩
    rw [← hS]
    have sb := u64_wrap_bd (IntKind.u64.wrap (IntKind.u64.wrap (s * 6364136223846793005)) + 1442695040888963407)
    rw [← hS] at sb
    have hr := and255 (S / 1099511627776) (by omega) (by omega)
    generalize bits BinOp.and IntKind.u64 (S / 1099511627776) 255 = R at *
    have hw : wrap64 R = R := IntWalk.wrap64_in R (by omega)
    rw [hw]
    go_ret
    exact ⟨R, rfl, hr.1, hr.2, Cur.next B.out (by omega) h2 sb C5.out ((Ext.drew _).trans (Ext.drew _))⟩
theorem mod_bd {x n : Int} (hn : 1 ≤ n) : 0 ≤ x % n ∧ x % n < n := ⟨Int.emod_nonneg _ (by omega), Int.emod_lt_of_pos _ (by omega)⟩
set_option maxRecDepth 100000 in
set_option maxHeartbeats 1000000 in
theorem cu.pick_m (w : World) (g N : Nat) (n : Int) (h : Cur w g N) (hN : N ≤ 4611686018427000000) (hn : InR n) :
    Calls Try.prog 37 #[.pointer (some ⟨g, 0, none⟩), .int .i64 n] w fun e w' => ∃ r, e = .returned (.int .i64 r) ∧ 0 ≤ r ∧ (1 ≤ n → r < n) ∧ (n < 1 → r = 0) ∧ Cur w' g (N + 2) ∧ TchF [g] w w' := by
  have H := hide h
  have hn1 := hn.1; have hn2 := hn.2
  have NX := hide (fun (wq : World) (M : Nat) (hq : Cur wq g M) (hM : M ≤ N + 1) => cu.next_m wq g M hq (by omega))
  clear h hn
  by_cases h1 : n ≤ 1
  · go_enter Try.func37, Try.ntmps37
    go_wp2
    go_ret
    exact ⟨0, rfl, Int.le_refl _, fun _ => by omega, fun _ => rfl, H.out.more (by omega), TchF.refl _ _⟩
  · by_cases h2 : 200 < n
    · go_enter Try.func37, Try.ntmps37
      go_wp2_with fail
      refine (NX.out w N H.out (by omega)).mono ?_
      rintro e w1 ⟨r, rfl, r0, r1, c1, k1⟩
      have C1 := hide c1; have K1 := hide k1
      clear c1 k1
      go_wp2_with fail
      refine (NX.out w1 (N + 1) C1.out (by omega)).mono ?_
      rintro e w2 ⟨q, rfl, q0, q1, c2, k2⟩
      have C2 := hide c2; have K2 := hide k2
      clear c2 k2
      go_wp2
      have tb := mod_bd (x := r * 256 + q) (n := n) (by omega)
      generalize (r * 256 + q) % n = z at *
      go_ret
      exact ⟨z, rfl, tb.1, fun _ => tb.2, fun _ => by omega, C2.out, K1.out.trans K2.out⟩
    · go_enter Try.func37, Try.ntmps37
      go_wp2_with fail
      refine (NX.out w N H.out (by omega)).mono ?_
      rintro e w1 ⟨r, rfl, r0, r1, c1, k1⟩
      have C1 := hide c1; have K1 := hide k1
      clear c1 k1
      go_wp2
      have tb := mod_bd (x := r) (n := n) (by omega)
      generalize r % n = z at *
      go_ret
      exact ⟨z, rfl, tb.1, fun _ => tb.2, fun _ => by omega, C1.out.more (by omega), K1.out⟩
set_option maxRecDepth 100000 in
set_option maxHeartbeats 1000000 in
theorem cu.one_m (w : World) (g N : Nat) (n : Int) (h : Cur w g N) (hN : N ≤ 4611686018427000000) (hn : InR n) :
    Calls Try.prog 41 #[.pointer (some ⟨g, 0, none⟩), .int .i64 n] w fun e w' => ∃ r, e = .returned (.bool r) ∧ Cur w' g (N + 2) ∧ TchF [g] w w' := by
  have P := hide (cu.pick_m w g N n h hN hn)
  clear h hn
  go_enter Try.func41, Try.ntmps41
  go_wp2_with (go_at_call 37; refine P.out.mono ?_; rintro e w1 ⟨r, rfl, r0, -, -, c1, k1⟩; have C1 := hide c1; have K1 := hide k1; clear c1 k1)
  go_ret
  exact ⟨_, rfl, C1.out, K1.out⟩
set_option maxRecDepth 100000 in
set_option maxHeartbeats 1000000 in
theorem cu.among_m (w : World) (g N b c : Nat) (zs : List Int) (h : Cur w g N) (hN : N ≤ 4611686018427000000) (hb : Blk w b (zs.map (Value.int .i64)).toArray 3) (hbg : b ≠ g) (hz : 1 ≤ zs.length) (hz2 : zs.length ≤ 1048576) :
    Calls Try.prog 80 #[.pointer (some ⟨g, 0, none⟩), .slice (some ⟨b, 0, none⟩) zs.length c] w fun e w' => ∃ r, e = .returned (.int .i64 r) ∧ r ∈ zs ∧ Cur w' g (N + 2) ∧ TchF [g] w w' := by
  have P := hide (cu.pick_m w g N zs.length h hN (by unfold InR; omega))
  have HB := hide hb
  have HZ := hide (fun (k : Nat) (hk : k < zs.length) => List.getElem?_eq_getElem hk)
  obtain ⟨m, hm⟩ : ∃ m, Hid (zs.length = m) := ⟨_, rfl⟩
  rw [hm.out] at hz hz2 P ⊢
  clear h hb HZ
  go_enter Try.func80, Try.ntmps80
  go_wp2_with fail
  refine P.out.mono ?_
  rintro e w1 ⟨r, rfl, r0, r1, -, c1, k1⟩
  have C1 := hide c1; have K1 := hide k1
  obtain ⟨k, rfl⟩ : ∃ k : Nat, r = k := ⟨r.toNat, by omega⟩
  have hk : (k : Int) < m := r1 (by omega)
  have hk2 : k < zs.length := by have := hm.out; omega
  have B1 := hide (HB.out.tchF k1 (by simpa using hbg))
  have cc : w1.cell? ⟨b, k, none⟩ = some (.int .i64 zs[k]) := by rw [B1.out.cell]; simp [hk2]
  have mem : zs[k] ∈ zs := List.getElem_mem hk2
  have MEM := hide mem
  clear c1 k1 mem
  generalize zs[k] = z at *
  go_wp2
  go_ret
  exact ⟨z, rfl, MEM.out, C1.out, K1.out⟩
end Go.Proofs.Ytijgndfhfggipaa
