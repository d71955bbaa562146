/- GD: DA, DB, DC, DD, DE, DF, DG in one text. -/
import Derived.Test.YtnokilofcdbjhaaGreatDoorGB
import Derived.OpenShut
import Derived.Test.YtnokilofcdbjhaaGreatDoorGA
import Derived.Test.YtnokilofcdbjhaaGreatDoorGM
import Derived.Deep.RegionHeld3
import Derived.Deep.OwnRows
/- The generator's cursor: a byte drawn. -/
namespace Go.Proofs.YtnokilofcdbjhaaGreatDoor
open Go.RowKit Go.Sort
set_option linter.unusedVariables false

/-- A cursor in block g, at most N bytes drawn. -/
def Cur (w : World) (g N : Nat) : Prop := ∃ (A : Option Addr) (n c at_ : Nat) (seed : Int), Blk w g #[.slice A n c, .int .i64 at_, .int .u64 seed] 65 ∧ at_ ≤ N ∧ n ≤ 9223372036854775807 ∧ 0 ≤ seed ∧ seed ≤ 18446744073709551615 ∧
  (0 < n → ∃ b off, A = some ⟨b, off, none⟩ ∧ b < g ∧ ∀ k, k < n → ∃ x, w.cell? ⟨b, off + k, none⟩ = some (.int .u8 x) ∧ 0 ≤ x ∧ x ≤ 255)
theorem Cur.more {w : World} {g N M : Nat} (h : Cur w g N) (hm : N ≤ M) : Cur w g M := by
  obtain ⟨A, n, c, a, s, hb, h1, h2⟩ := h
  exact ⟨A, n, c, a, s, hb, by omega, h2⟩
theorem Cur.lt {w : World} {g N : Nat} (h : Cur w g N) : g < w.heap.size := by
  obtain ⟨A, n, c, a, s, hb, h1, h2⟩ := h
  exact hb.lt
theorem Cur.tchF {w w' : World} {g N : Nat} {fp : List Nat} (h : Cur w g N) (k : TchF fp w w') (hd : ∀ i ∈ fp, g < i) : Cur w' g N := by
  obtain ⟨A, n, c, a, s, hb, h1, h2, h3, h4, h5⟩ := h
  have hg := hb.lt
  refine ⟨A, n, c, a, s, hb.tchF k (fun hm => by have := hd g hm; omega), h1, h2, h3, h4, fun hn => ?_⟩
  obtain ⟨b, off, e, hbg, hc⟩ := h5 hn
  refine ⟨b, off, e, hbg, fun j hj => ?_⟩
  obtain ⟨x, hx, h6⟩ := hc j hj
  exact ⟨x, (World.cell?_of_block (k.block b (by omega) (fun hm => by have := hd b hm; omega))).trans hx, h6⟩
theorem Cur.ext {w w' : World} {g N : Nat} (h : Cur w g N) (k : Ext w w') : Cur w' g N := h.tchF (TchF.of_ext k (fp := [])) (by simp)

theorem and255 (E : Int) (h0 : 0 ≤ E) (h1 : E ≤ 18446744073709551615) : 0 ≤ bits BinOp.and IntKind.u64 E 255 ∧ bits BinOp.and IntKind.u64 E 255 ≤ 255 := by
  have h := bits_and_u64_nat E.toNat 255 (by omega) (by omega)
  rw [Int.toNat_of_nonneg h0] at h
  have h2 : E.toNat &&& 255 ≤ 255 := Nat.and_le_right
  have h3 : bits BinOp.and IntKind.u64 E 255 = ((E.toNat &&& 255 : Nat) : Int) := h
  rw [h3]
  omega

theorem TchF.put {fp : List Nat} (w : World) (p : Addr) (v : Value) (hp : p.block ∈ fp) : TchF fp w (w.setCell p v) := by
  have h := Below.setCell (Below.refl 0 w) (Nat.zero_le p.block) v
  exact ⟨h.os, h.tape, h.output, h.size, fun k hk hr => Below.heap_setCell _ _ _ _ (fun e => hr (e ▸ hp))⟩
theorem u64_wrap_bd (x : Int) : 0 ≤ IntKind.u64.wrap x ∧ IntKind.u64.wrap x ≤ 18446744073709551615 := bounds_u64 (wf_wrap _ _)
theorem Cur.next {w w9 : World} {g N n c a : Nat} {A : Option Addr} {s S : Int} (hb : Blk w g #[.slice A n c, .int .i64 a, .int .u64 s] 65) (h1 : a ≤ N) (h2 : n ≤ 9223372036854775807) (hS : 0 ≤ S ∧ S ≤ 18446744073709551615)
    (h5 : 0 < n → ∃ b off, A = some ⟨b, off, none⟩ ∧ b < g ∧ ∀ k, k < n → ∃ x, w.cell? ⟨b, off + k, none⟩ = some (.int .u8 x) ∧ 0 ≤ x ∧ x ≤ 255) (hx : Ext ((w.setCell ⟨g, 1, none⟩ (.int .i64 ((a : Int) + 1))).setCell ⟨g, 2, none⟩ (.int .u64 S)) w9) :
    Cur w9 g (N + 1) ∧ TchF [g] w w9 := by
  have k1 := TchF.put w ⟨g, 1, none⟩ (.int .i64 ((a : Int) + 1)) (fp := [g]) (by simp)
  have k2 := TchF.put (w.setCell ⟨g, 1, none⟩ (.int .i64 ((a : Int) + 1))) ⟨g, 2, none⟩ (.int .u64 S) (fp := [g]) (by simp)
  have k := (k1.trans k2).trans (TchF.of_ext hx)
  refine ⟨⟨A, n, c, a + 1, S, ?_, by omega, h2, hS.1, hS.2, fun hn => ?_⟩, k⟩
  · have b2 := ((hb.set 1 (.int .i64 ((a : Int) + 1))).set 2 (.int .u64 S)).ext hx
    exact b2
  · obtain ⟨b, off, e, hbg, hc⟩ := h5 hn
    have hg := hb.lt
    refine ⟨b, off, e, hbg, fun j hj => ?_⟩
    obtain ⟨x, hx, h6⟩ := hc j hj
    exact ⟨x, (World.cell?_of_block (k.block b (by omega) (fun hm => by simp at hm; omega))).trans hx, h6⟩

set_option maxRecDepth 100000 in
set_option maxHeartbeats 1000000 in
theorem cu.next_m (w : World) (g N : Nat) (h : Cur w g N) (hN : N ≤ 4611686018427387904) :
    Calls Tryz.prog 65 #[.pointer (some ⟨g, 0, none⟩)] w fun e w' => ∃ r, e = .returned (.int .i64 r) ∧ 0 ≤ r ∧ r ≤ 255 ∧ Cur w' g (N + 1) ∧ TchF [g] w w' := by
  obtain ⟨A, n, c, a, s, hb, h1, h2, h3, h4, h5⟩ := h
  have B := hide hb
  have c0 := hb.cell 0; have c1 := hb.cell 1; have c2 := hb.cell 2
  simp at c0 c1 c2
  have fz := hb.free
  clear hb
  by_cases hlt : a < n
  · obtain ⟨b, off, rfl, hbg, hc⟩ := h5 (by omega)
    have C5 := hide hc
    obtain ⟨x, hx, x0, x1⟩ := hc a hlt
    have i1 : (a : Int) < (n : Int) := by omega
    clear hc h5
    go_enter Tryz.func65, Tryz.ntmps65
    go_wp2
    go_region
    go_wp2
    go_region
    go_wp2
    go_region
    go_wp2
    go_ret
    obtain ⟨S, hS⟩ : ∃ S, S = IntKind.u64.wrap (IntKind.u64.wrap (IntKind.u64.wrap (s * 6364136223846793005) + x) + 1442695040888963407) := ⟨_, rfl⟩
    rw [← hS]
    have sb := u64_wrap_bd (IntKind.u64.wrap (IntKind.u64.wrap (s * 6364136223846793005) + x) + 1442695040888963407)
    rw [← hS] at sb
    exact ⟨x, rfl, x0, x1, Cur.next B.out (by omega) h2 sb (fun _ => ⟨b, off, rfl, hbg, C5.out⟩) ((Ext.drew _).trans ((Ext.drew _).trans (Ext.drew _)))⟩
  · have C5 := hide h5
    clear h5
    go_enter Tryz.func65, Tryz.ntmps65
    go_wp2
    go_region
    go_wp2
    go_region
    go_wp2
    obtain ⟨S, hS⟩ : ∃ S, S = IntKind.u64.wrap (IntKind.u64.wrap (IntKind.u64.wrap (s * 6364136223846793005)) + 1442695040888963407) := ⟨_, rfl⟩
    rw [← hS]
    have sb := u64_wrap_bd (IntKind.u64.wrap (IntKind.u64.wrap (s * 6364136223846793005)) + 1442695040888963407)
    rw [← hS] at sb
    have hr := and255 (S / 1099511627776) (by omega) (by omega)
    generalize bits BinOp.and IntKind.u64 (S / 1099511627776) 255 = R at *
    have hw : wrap64 R = R := IntWalk.wrap64_in R (by omega)
    rw [hw]
    go_ret
    exact ⟨R, rfl, hr.1, hr.2, Cur.next B.out (by omega) h2 sb C5.out ((Ext.drew _).trans (Ext.drew _))⟩
theorem mod_bd {x n : Int} (hn : 1 ≤ n) : 0 ≤ x % n ∧ x % n < n := ⟨Int.emod_nonneg _ (by omega), Int.emod_lt_of_pos _ (by omega)⟩
set_option maxRecDepth 100000 in
set_option maxHeartbeats 1000000 in
theorem cu.pick_m (w : World) (g N : Nat) (n : Int) (h : Cur w g N) (hN : N ≤ 4611686018427000000) (hn : InR n) :
    Calls Tryz.prog 34 #[.pointer (some ⟨g, 0, none⟩), .int .i64 n] w fun e w' => ∃ r, e = .returned (.int .i64 r) ∧ 0 ≤ r ∧ (1 ≤ n → r < n) ∧ (n < 1 → r = 0) ∧ Cur w' g (N + 2) ∧ TchF [g] w w' := by
  have H := hide h
  have hn1 := hn.1; have hn2 := hn.2
  have NX := hide (fun (wq : World) (M : Nat) (hq : Cur wq g M) (hM : M ≤ N + 1) => cu.next_m wq g M hq (by omega))
  clear h hn
  by_cases h1 : n ≤ 1
  · go_enter Tryz.func34, Tryz.ntmps34
    go_wp2
    go_ret
    exact ⟨0, rfl, Int.le_refl _, fun _ => by omega, fun _ => rfl, H.out.more (by omega), TchF.refl _ _⟩
  · by_cases h2 : 200 < n
    · go_enter Tryz.func34, Tryz.ntmps34
      go_wp2_with fail
      refine (NX.out w N H.out (by omega)).mono ?_
      rintro e w1 ⟨r, rfl, r0, r1, c1, k1⟩
      have C1 := hide c1; have K1 := hide k1
      clear c1 k1
      go_wp2_with fail
      refine (NX.out w1 (N + 1) C1.out (by omega)).mono ?_
      rintro e w2 ⟨q, rfl, q0, q1, c2, k2⟩
      have C2 := hide c2; have K2 := hide k2
      clear c2 k2
      go_wp2
      have tb := mod_bd (x := r * 256 + q) (n := n) (by omega)
      generalize (r * 256 + q) % n = z at *
      go_ret
      exact ⟨z, rfl, tb.1, fun _ => tb.2, fun _ => by omega, C2.out, K1.out.trans K2.out⟩
    · go_enter Tryz.func34, Tryz.ntmps34
      go_wp2_with fail
      refine (NX.out w N H.out (by omega)).mono ?_
      rintro e w1 ⟨r, rfl, r0, r1, c1, k1⟩
      have C1 := hide c1; have K1 := hide k1
      clear c1 k1
      go_wp2
      have tb := mod_bd (x := r) (n := n) (by omega)
      generalize r % n = z at *
      go_ret
      exact ⟨z, rfl, tb.1, fun _ => tb.2, fun _ => by omega, C1.out.more (by omega), K1.out⟩
set_option maxRecDepth 100000 in
set_option maxHeartbeats 1000000 in
theorem cu.one_m (w : World) (g N : Nat) (n : Int) (h : Cur w g N) (hN : N ≤ 4611686018427000000) (hn : InR n) :
    Calls Tryz.prog 36 #[.pointer (some ⟨g, 0, none⟩), .int .i64 n] w fun e w' => ∃ r, e = .returned (.bool r) ∧ Cur w' g (N + 2) ∧ TchF [g] w w' := by
  have P := hide (cu.pick_m w g N n h hN hn)
  clear h hn
  go_enter Tryz.func36, Tryz.ntmps36
  go_wp2_with (go_at_call 34; refine P.out.mono ?_; rintro e w1 ⟨r, rfl, r0, -, -, c1, k1⟩; have C1 := hide c1; have K1 := hide k1; clear c1 k1)
  go_ret
  exact ⟨_, rfl, C1.out, K1.out⟩
set_option maxRecDepth 100000 in
set_option maxHeartbeats 1000000 in
theorem cu.among_m (w : World) (g N b c : Nat) (zs : List Int) (h : Cur w g N) (hN : N ≤ 4611686018427000000) (hb : Blk w b (zs.map (Value.int .i64)).toArray 3) (hbg : b ≠ g) (hz : 1 ≤ zs.length) (hz2 : zs.length ≤ 1048576) :
    Calls Tryz.prog 37 #[.pointer (some ⟨g, 0, none⟩), .slice (some ⟨b, 0, none⟩) zs.length c] w fun e w' => ∃ r, e = .returned (.int .i64 r) ∧ r ∈ zs ∧ Cur w' g (N + 2) ∧ TchF [g] w w' := by
  have P := hide (cu.pick_m w g N zs.length h hN (by unfold InR; omega))
  have HB := hide hb
  have HZ := hide (fun (k : Nat) (hk : k < zs.length) => List.getElem?_eq_getElem hk)
  obtain ⟨m, hm⟩ : ∃ m, Hid (zs.length = m) := ⟨_, rfl⟩
  rw [hm.out] at hz hz2 P ⊢
  clear h hb HZ
  go_enter Tryz.func37, Tryz.ntmps37
  go_wp2_with fail
  refine P.out.mono ?_
  rintro e w1 ⟨r, rfl, r0, r1, -, c1, k1⟩
  have C1 := hide c1; have K1 := hide k1
  obtain ⟨k, rfl⟩ : ∃ k : Nat, r = k := ⟨r.toNat, by omega⟩
  have hk : (k : Int) < m := r1 (by omega)
  have hk2 : k < zs.length := by have := hm.out; omega
  have B1 := hide (HB.out.tchF k1 (by simpa using hbg))
  have cc : w1.cell? ⟨b, k, none⟩ = some (.int .i64 zs[k]) := by rw [B1.out.cell]; simp [hk2]
  have mem : zs[k] ∈ zs := List.getElem_mem hk2
  have MEM := hide mem
  clear c1 k1 mem
  generalize zs[k] = z at *
  go_wp2
  go_ret
  exact ⟨z, rfl, MEM.out, C1.out, K1.out⟩
end Go.Proofs.YtnokilofcdbjhaaGreatDoor

/- Drawn marks: the numbers of judges and items; valid marks. -/
namespace Go.Proofs.YtnokilofcdbjhaaGreatDoor
open Go.RowKit Go.Sort
set_option linter.unusedVariables false

/-- A step behind a step: what turns is the cursor's or new. -/
theorem TchF.step {g : Nat} {fp : List Nat} {w a b : World} (h : TchF [g] w a) (k : TchF fp a b) (hd : ∀ i ∈ fp, i = g ∨ w.heap.size ≤ i) : TchF [g] w b :=
  ⟨k.os.trans h.os, k.tape.trans h.tape, k.output.trans h.output, Nat.le_trans h.size k.size, fun i hi hm => (k.block i (Nat.lt_of_lt_of_le hi h.size) (fun hh => by
    rcases hd i hh with e | e
    · exact hm (by simp [e])
    · omega)).trans (h.block i hi hm)⟩
theorem TchF.stepX {g : Nat} {w a b : World} (h : TchF [g] w a) (k : Ext a b) : TchF [g] w b := h.step (TchF.of_ext k (fp := [])) (by simp)
def lenV : Value → Nat
  | .slice _ n _ => n
  | _ => 0
def lenAt (w : World) (b o : Nat) : Nat := match w.cell? ⟨b, o, none⟩ with
  | some (.slice _ n _) => n
  | _ => 0
theorem lenAt_of {w : World} {b o n c : Nat} {A : Option Addr} (h : w.cell? ⟨b, o, none⟩ = some (.slice A n c)) : lenAt w b o = n := by unfold lenAt; rw [h]

set_option maxHeartbeats 400000 in
theorem cu.least_m (a b : Int) (w : World) : Calls Tryz.prog 70 #[.int .i64 a, .int .i64 b] w fun e w' => e = .returned (.int .i64 (if a < b then a else b)) ∧ w' = w := by
  obtain ⟨R, hR⟩ : ∃ R, Hid ((if a < b then a else b) = R) := ⟨_, rfl⟩
  rw [hR.out]
  by_cases h : a < b
  · have e : Hid (R = a) := by show _ = _; rw [← hR.out, if_pos h]
    go_enter Tryz.func70, Tryz.ntmps70
    go_wp2
    go_ret
    exact ⟨by rw [e.out]; rfl, rfl⟩
  · have e : Hid (R = b) := by show _ = _; rw [← hR.out, if_neg h]
    go_enter Tryz.func70, Tryz.ntmps70
    go_wp2
    go_ret
    exact ⟨by rw [e.out]; rfl, rfl⟩
set_option maxHeartbeats 400000 in
theorem cu.most_m (a b : Int) (w : World) : Calls Tryz.prog 69 #[.int .i64 a, .int .i64 b] w fun e w' => e = .returned (.int .i64 (if b < a then a else b)) ∧ w' = w := by
  obtain ⟨R, hR⟩ : ∃ R, Hid ((if b < a then a else b) = R) := ⟨_, rfl⟩
  rw [hR.out]
  by_cases h : b < a
  · have e : Hid (R = a) := by show _ = _; rw [← hR.out, if_pos h]
    go_enter Tryz.func69, Tryz.ntmps69
    go_wp2
    go_ret
    exact ⟨by rw [e.out]; rfl, rfl⟩
  · have e : Hid (R = b) := by show _ = _; rw [← hR.out, if_neg h]
    go_enter Tryz.func69, Tryz.ntmps69
    go_wp2
    go_ret
    exact ⟨by rw [e.out]; rfl, rfl⟩

set_option maxRecDepth 100000 in
set_option maxHeartbeats 1000000 in
theorem cu.judges_m (w : World) (g N : Nat) (h : Cur w g N) (hN : N ≤ 4611686018427000000) :
    Calls Tryz.prog 68 #[.pointer (some ⟨g, 0, none⟩)] w fun e w' => ∃ n : Nat, e = .returned (.int .i64 n) ∧ 3 ≤ n ∧ n ≤ 9 ∧ Cur w' g (N + 2) ∧ TchF [g] w w' := by
  have hg := h.lt
  have AM := hide (cu.among_m (w.alloc (.cells #[.int .i64 3, .int .i64 3, .int .i64 4, .int .i64 5, .int .i64 5, .int .i64 7, .int .i64 9] 3)) g N w.heap.size 7 [3, 3, 4, 5, 5, 7, 9] (h.ext (Ext.alloc _ _)) hN (Blk.new rfl _ _) (by omega) (by decide) (by decide))
  clear h
  go_enter Tryz.func68, Tryz.ntmps68
  go_wp2_with fail
  refine AM.out.mono ?_
  rintro e w1 ⟨r, rfl, hr, c1, k1⟩
  have C1 := hide c1
  have K1 := hide ((TchF.of_ext (Ext.alloc w (.cells #[.int .i64 3, .int .i64 3, .int .i64 4, .int .i64 5, .int .i64 5, .int .i64 7, .int .i64 9] 3)) (fp := [g])).trans k1)
  have hb : 3 ≤ r ∧ r ≤ 9 := by
    simp only [List.mem_cons, List.not_mem_nil, or_false] at hr
    omega
  clear c1 k1 hr
  go_wp2
  go_ret
  exact ⟨r.toNat, by rw [Int.toNat_of_nonneg (by omega)]; rfl, by omega, by omega, C1.out, K1.out⟩
set_option maxRecDepth 100000 in
set_option maxHeartbeats 1000000 in
theorem cu.howMany_m (w : World) (g N : Nat) (h : Cur w g N) (hN : N ≤ 4611686018426000000) :
    Calls Tryz.prog 43 #[.pointer (some ⟨g, 0, none⟩)] w fun e w' => ∃ n : Nat, e = .returned (.int .i64 n) ∧ n ≤ 15 ∧ Cur w' g (N + 4) ∧ TchF [g] w w' := by
  have ON := hide (cu.one_m w g N 24 h (by omega) (by unfold InR; omega))
  have PK := hide (fun (wq : World) (m : Int) (hq : Cur wq g (N + 2)) (hm : InR m) => cu.pick_m wq g (N + 2) m hq (by omega) hm)
  clear h
  go_enter Tryz.func43, Tryz.ntmps43
  go_wp2_with fail
  refine ON.out.mono ?_
  rintro e w1 ⟨r, rfl, c1, k1⟩
  have C1 := hide c1; have K1 := hide k1
  clear c1 k1
  cases r
  · go_wp2_with fail
    refine (PK.out w1 6 C1.out (by unfold InR; omega)).mono ?_
    rintro e w2 ⟨q, rfl, q0, q1, -, c2, k2⟩
    have C2 := hide c2; have K2 := hide (K1.out.trans k2)
    have q2 := q1 (by omega)
    clear c2 k2 q1
    go_wp2
    go_ret
    exact ⟨q.toNat, by rw [Int.toNat_of_nonneg (by omega)]; rfl, by omega, C2.out, K2.out⟩
  · go_wp2_with fail
    refine (PK.out w1 2 C1.out (by unfold InR; omega)).mono ?_
    rintro e w2 ⟨q, rfl, q0, q1, -, c2, k2⟩
    have C2 := hide c2; have K2 := hide (K1.out.trans k2)
    have q2 := q1 (by omega)
    clear c2 k2 q1
    go_wp2
    go_ret
    exact ⟨(14 + q).toNat, by rw [Int.toNat_of_nonneg (by omega)]; rfl, by omega, C2.out, K2.out⟩
end Go.Proofs.YtnokilofcdbjhaaGreatDoor

/- Valid marks drawn: both lists of rows. (Printed by db.py.) -/
namespace Go.Proofs.YtnokilofcdbjhaaGreatDoor
open Go.RowKit Go.Sort
set_option linter.unusedVariables false

/-- Marks under way: the result's cell, the box of both lists, the lists of the call's own. -/
structure MkSt (w wr : World) (g J : Nat) (Ag : Option Addr) (ng cg : Nat) (xg : List (List Int)) (fg : List Nat) (Ac : Option Addr) (nc cc : Nat) (xc : List (List Int)) (fc : List Nat) : Prop where
  b0 : Blk wr w.heap.size #[.slice none 0 0, .slice none 0 0] 25
  b1 : Blk wr (w.heap.size + 1) #[.slice Ag ng cg, .slice Ac nc cc] 25
  og : LO kdL 31 wr Ag cg xg fg
  oc : LO kdL 31 wr Ac cc xc fc
  lg : xg.length = ng
  lc : xc.length = nc
  rg : ∀ x ∈ xg, x.length = J ∧ ∀ z ∈ x, z.natAbs ≤ 1000
  rc : ∀ x ∈ xc, x.length = J ∧ ∀ z ∈ x, z.natAbs ≤ 1000
  bg : ∀ i ∈ fg, w.heap.size + 1 < i
  bc : ∀ i ∈ fc, w.heap.size + 1 < i
  dj : ∀ i ∈ fg, i ∉ fc
  tch : TchF [g] w wr
section
variable {w wr w2 : World} {g J : Nat} {Ag : Option Addr} {ng cg : Nat} {xg : List (List Int)} {fg : List Nat} {Ac : Option Addr} {nc cc : Nat} {xc : List (List Int)} {fc : List Nat}
theorem MkSt.keep {fp : List Nat} (h : MkSt w wr g J Ag ng cg xg fg Ac nc cc xc fc) (hg : g < w.heap.size) (k : TchF fp wr w2) (hd : ∀ i ∈ fp, i = g ∨ (w.heap.size + 1 < i ∧ i ∉ fg ∧ i ∉ fc)) : MkSt w w2 g J Ag ng cg xg fg Ac nc cc xc fc where
  b0 := h.b0.tchF k (fun hm => by rcases hd _ hm with e | e <;> omega)
  b1 := h.b1.tchF k (fun hm => by rcases hd _ hm with e | e <;> omega)
  og := h.og.keep fun i hi => k.block i (h.og.lt i hi) (fun hm => by
    rcases hd _ hm with e | e
    · have := h.bg i hi; omega
    · exact e.2.1 hi)
  oc := h.oc.keep fun i hi => k.block i (h.oc.lt i hi) (fun hm => by
    rcases hd _ hm with e | e
    · have := h.bc i hi; omega
    · exact e.2.2 hi)
  lg := h.lg
  lc := h.lc
  rg := h.rg
  rc := h.rc
  bg := h.bg
  bc := h.bc
  dj := h.dj
  tch := h.tch.step k fun i hi => by
    rcases hd i hi with e | e
    · exact .inl e
    · exact .inr (by omega)
theorem MkSt.ext (h : MkSt w wr g J Ag ng cg xg fg Ac nc cc xc fc) (hg : g < w.heap.size) (k : Ext wr w2) : MkSt w w2 g J Ag ng cg xg fg Ac nc cc xc fc := h.keep hg (TchF.of_ext k (fp := [])) (by simp)
theorem MkSt.curs (h : MkSt w wr g J Ag ng cg xg fg Ac nc cc xc fc) (hg : g < w.heap.size) (k : TchF [g] wr w2) : MkSt w w2 g J Ag ng cg xg fg Ac nc cc xc fc := h.keep hg k (fun i hi => .inl (by simpa using hi))
theorem MkSt.lenG (h : MkSt w wr g J Ag ng cg xg fg Ac nc cc xc fc) : lenAt wr (w.heap.size + 1) 0 = ng := lenAt_of (A := Ag) (c := cg) (by have := h.b1.cell 0; simpa using this)
theorem MkSt.lenC (h : MkSt w wr g J Ag ng cg xg fg Ac nc cc xc fc) : lenAt wr (w.heap.size + 1) 1 = nc := lenAt_of (A := Ac) (c := cc) (by have := h.b1.cell 1; simpa using this)
theorem MkSt.pushG {w3 : World} {A3 : Option Addr} {c3 : Nat} {f fp3 : List Nat} {x : List Int} (h : MkSt w wr g J Ag ng cg xg fg Ac nc cc xc fc) (hg : g < w.heap.size) (ha : ApL kdL 31 wr fg f w3 A3 c3 (xg ++ [x]) fp3) (hx : x.length = J ∧ ∀ z ∈ x, z.natAbs ≤ 1000) (hf : ∀ i ∈ f, w.heap.size + 1 < i ∧ i ∉ fc) :
    MkSt w (w3.setCell ⟨w.heap.size + 1, 0, none⟩ (.slice A3 (ng + 1) c3)) g J A3 (ng + 1) c3 (xg ++ [x]) fp3 Ac nc cc xc fc := by
  have hs := h.tch.size
  have n3 : ∀ i ∈ fp3, w.heap.size + 1 < i ∧ i ∉ fc := fun i hi => by
    rcases ha.sub i hi with e | e | e
    · exact ⟨h.bg i e, h.dj i e⟩
    · exact hf i e
    · have h1 := h.b1.lt
      exact ⟨by omega, fun hm => by have := h.oc.lt i hm; omega⟩
  have b1 := (h.b1.tchF ha.tch (fun hm => by have := h.bg _ hm; omega)).set 0 (.slice A3 (ng + 1) c3)
  refine ⟨((h.b0.tchF ha.tch (fun hm => by have := h.bg _ hm; omega)).far (by simp) _), b1, ha.own.keep (fun i hi => Below.heap_setCell _ _ _ _ (by have := n3 i hi; simp; omega)), ?_, by simp [h.lg], h.lc, ?_, h.rc, fun i hi => (n3 i hi).1, h.bc, fun i hi => (n3 i hi).2, ?_⟩
  · refine (h.oc.keep fun i hi => ha.tch.block i (h.oc.lt i hi) (fun hm => h.dj i hm hi)).keep (fun i hi => Below.heap_setCell _ _ _ _ (by have := h.bc i hi; simp; omega))
  · intro y hy
    rcases List.mem_append.1 hy with e | e
    · exact h.rg y e
    · simp at e; rw [e]; exact hx
  · exact (h.tch.step ha.tch fun i hi => .inr (by have := h.bg i hi; omega)).step (TchF.put w3 ⟨w.heap.size + 1, 0, none⟩ _ (fp := [w.heap.size + 1]) (by simp)) (fun i hi => .inr (by simp at hi; omega))
theorem MkSt.pushC {w3 : World} {A3 : Option Addr} {c3 : Nat} {f fp3 : List Nat} {x : List Int} (h : MkSt w wr g J Ag ng cg xg fg Ac nc cc xc fc) (hg : g < w.heap.size) (ha : ApL kdL 31 wr fc f w3 A3 c3 (xc ++ [x]) fp3) (hx : x.length = J ∧ ∀ z ∈ x, z.natAbs ≤ 1000) (hf : ∀ i ∈ f, w.heap.size + 1 < i ∧ i ∉ fg) :
    MkSt w (w3.setCell ⟨w.heap.size + 1, 1, none⟩ (.slice A3 (nc + 1) c3)) g J Ag ng cg xg fg A3 (nc + 1) c3 (xc ++ [x]) fp3 := by
  have hs := h.tch.size
  have n3 : ∀ i ∈ fp3, w.heap.size + 1 < i ∧ i ∉ fg := fun i hi => by
    rcases ha.sub i hi with e | e | e
    · exact ⟨h.bc i e, fun hm => h.dj i hm e⟩
    · exact hf i e
    · have h1 := h.b1.lt
      exact ⟨by omega, fun hm => by have := h.og.lt i hm; omega⟩
  have b1 := (h.b1.tchF ha.tch (fun hm => by have := h.bc _ hm; omega)).set 1 (.slice A3 (nc + 1) c3)
  refine ⟨((h.b0.tchF ha.tch (fun hm => by have := h.bc _ hm; omega)).far (by simp) _), b1, ?_, ha.own.keep (fun i hi => Below.heap_setCell _ _ _ _ (by have := n3 i hi; simp; omega)), h.lg, by simp [h.lc], h.rg, ?_, h.bg, fun i hi => (n3 i hi).1, fun i hi hm => (n3 i hm).2 hi, ?_⟩
  · refine (h.og.keep fun i hi => ha.tch.block i (h.og.lt i hi) (fun hm => h.dj i hi hm)).keep (fun i hi => Below.heap_setCell _ _ _ _ (by have := h.bg i hi; simp; omega))
  · intro y hy
    rcases List.mem_append.1 hy with e | e
    · exact h.rc y e
    · simp at e; rw [e]; exact hx
  · exact (h.tch.step ha.tch fun i hi => .inr (by have := h.bc i hi; omega)).step (TchF.put w3 ⟨w.heap.size + 1, 1, none⟩ _ (fp := [w.heap.size + 1]) (by simp)) (fun i hi => .inr (by simp at hi; omega))
end
theorem own_tch {e : TypeId} {w w' : World} {lo n c : Nat} {A : Option Addr} {zs : List Int} {fp : List Nat} (h : OwnI e w lo A n c zs) (k : TchF fp w w') (hd : ∀ p, A = some p → p.block ∉ fp) : OwnI e w' lo A n c zs := by
  have hf := OwnI.form h
  refine ⟨h.1, ?_⟩
  rcases h.2 with h | ⟨g, cap, cur, h, h1, h2, r⟩
  · exact .inl h
  · refine .inr ⟨g, cap, cur, h, h1, ?_, r⟩
    simp only [Value.slice.injEq] at h
    rcases hf with ⟨hA, _⟩ | ⟨g', hA, _, hlt, _⟩
    · rw [hA] at h; simp at h
    · rw [hA] at h
      have e : g' = g := by simpa using h.1
      subst e
      rw [k.block g' hlt (hd _ hA), h2]
theorem nat_snoc {zs : List Int} {y : Int} (h : ∀ z ∈ zs, z.natAbs ≤ 1000) (hy : y.natAbs ≤ 1000) : ∀ z ∈ zs ++ [y], z.natAbs ≤ 1000 := fun z hz => by
  rcases List.mem_append.1 hz with e | e
  · exact h z e
  · simp at e; rw [e]; exact hy
/-- A row of its own behind an append. -/
theorem row_apd {w w3 : World} {lo j c3 : Nat} {A A3 : Option Addr} {zs : List Int} {y : Int} (ha : Apd 3 w lo A w3 A3 (j + 1) c3 (zs.map (Value.int .i64) ++ [.int .i64 y])) : OwnI 3 w3 lo A3 (j + 1) c3 (zs ++ [y]) :=
  own_conv ha.own (Nat.le_refl _) rfl (by simp)

set_option maxRecDepth 100000 in
set_option maxHeartbeats 4000000 in
theorem cu.marks_b (w : World) (g N n : Nat) (h : Cur w g N) (hN : N ≤ 4611686018420000000) (hn : n ≤ 1000) :
    Calls Tryz.prog 42 #[.pointer (some ⟨g, 0, none⟩), .int .i64 n] w fun e w' => ∃ v d J, e = .returned v ∧ kM.fr w' w.heap.size w'.heap.size v d ∧ d.1.length = n ∧ d.2.length = 3 ∧ 3 ≤ J ∧ J ≤ 9 ∧ (∀ x ∈ d.1, x.length = J ∧ ∀ z ∈ x, z.natAbs ≤ 1000) ∧ (∀ x ∈ d.2, x.length = J ∧ ∀ z ∈ x, z.natAbs ≤ 1000) ∧ Cur w' g (N + 20 * n + 100) ∧ TchF [g] w w' := by
  have hg := h.lt
  obtain ⟨W0, hW0⟩ : ∃ W0, Hid (W0 = (w.alloc (.cells #[.slice none 0 0, .slice none 0 0] 25)).alloc (.cells #[.slice none 0 0, .slice none 0 0] 25)) := ⟨_, rfl⟩
  have X0 : Hid (Ext w W0) := by rw [hW0.out]; exact (Ext.alloc w _).trans (Ext.alloc _ _)
  have ST0 : Hid (∀ J, MkSt w W0 g J none 0 0 [] [] none 0 0 [] []) := fun J => ⟨by rw [hW0.out]; exact (Blk.new rfl _ _).alloc _, by rw [hW0.out]; exact Blk.new (by simp) _ _, LO.none_, LO.none_, rfl, rfl, by simp, by simp, by simp, by simp, by simp, TchF.of_ext X0.out⟩
  have C0 := hide (h.ext X0.out)
  have JD := hide (cu.judges_m W0 g N C0.out (by omega))
  have PK := hide (fun (wq : World) (m : Int) (M : Nat) (hq : Cur wq g M) (hM : M ≤ 4611686018427000000) (hm : InR m) => cu.pick_m wq g M m hq hM hm)
  clear h
  go_enter Tryz.func42, Tryz.ntmps42
  go_wp2_with fail
  rw [← hW0.out]
  clear hW0
  refine JD.out.mono ?_
  rintro e w1 ⟨J, rfl, J3, J9, c1, k1⟩
  have C1 := hide c1
  have ST1 := hide ((ST0.out J).curs hg k1)
  clear c1 k1 JD ST0 C0 X0
  go_wp2
  go_loopw [7] (fun _ wr => ∃ (k : Nat) (A5 : Option Addr) (c5 : Nat) (xs : List (List Int)) (fp : List Nat), k ≤ n ∧ MkSt w wr g J A5 k c5 xs fp none 0 0 [] [] ∧ Cur wr g (N + 2 + 20 * k)) (fun _ wr => n - lenAt wr (w.heap.size + 1) 0)
  case atStart => exact ⟨0, none, 0, [], [], Nat.zero_le _, ST1.out, C1.out⟩
  case round =>
    obtain ⟨k, A5, c5, xs, fp, hk, st, cur⟩ := hrel
    have ST := hide st
    have CU := hide cur
    have LA := hide st.lenG
    clear st cur
    have q0 := ST.out.b1.cell 0
    have q1 := ST.out.b1.cell 1
    simp only [List.getElem?_toArray, List.getElem?_cons_zero, List.getElem?_cons_succ] at q0 q1
    have HL := hide ST.out.lg
    have sz := ST.out.b1.lt
    by_cases hlt : k < n
    · go_wp2_with fail
      refine (PK.out wr 7 _ CU.out (by omega) (by unfold InR; omega)).mono ?_
      rintro e w1 ⟨r, rfl, r0, r1, -, c1, k1⟩
      have r2 := r1 (by omega)
      have C1 := hide c1
      have ST1 := hide (ST.out.curs hg k1)
      have z1 := k1.size
      clear c1 k1 r1 q0 q1
      go_wp2
      go_loopw [8] (fun l wq => ∃ (j : Nat) (A2 : Option Addr) (c2 : Nat) (zs : List Int), (∀ z ∈ zs, z.natAbs ≤ 1000) ∧ j ≤ J ∧ l = .slice A2 j c2 ∧ OwnI 3 wq (w.heap.size + 2) A2 j c2 zs ∧ (∀ p, A2 = some p → p.block ∉ fp ∧ p.block ∉ []) ∧ MkSt w wq g J A5 k c5 xs fp none 0 0 [] [] ∧ Cur wq g (N + 2 + 20 * k + 2 + 2 * j) ∧ wr.heap.size ≤ wq.heap.size) (fun l _ => J - lenV l)
      case atStart => exact ⟨0, none, 0, [], by simp, Nat.zero_le _, rfl, OwnI.nil, (fun p hp => by cases hp), ST1.out, C1.out, z1⟩
      case round =>
        obtain ⟨j, A2, c2, zs, bz, hj, rfl, own, dis, st, cur, zq⟩ := hrel
        have BZ := hide bz
        clear bz
        have OW := hide own
        have DI := hide dis
        have SQ := hide st
        have CQ := hide cur
        have ca := own.capn
        have cb := own.capm
        clear own dis st cur
        by_cases hjl : j < J
        · go_wp2_with fail
          refine (PK.out wr 4 _ CQ.out (by omega) (by unfold InR; omega)).mono ?_
          rintro e w2 ⟨q, rfl, s0, s1, -, c2', k2⟩
          have s2 := s1 (by omega)
          have C2 := hide c2'
          have S2 := hide (SQ.out.curs hg k2)
          have OW2 := hide (own_tch OW.out k2 (fun p hp => by have := Own.fromLo OW.out p hp; simp; omega))
          have z2 := k2.size
          clear c2' k2 s1
          go_wp2_with fail
          refine (cu.least_m _ _ w2).mono ?_
          rintro e w9 ⟨he, rfl⟩
          obtain ⟨y1, hy1, h5⟩ : ∃ y1 : Int, e = .returned (.int .i64 y1) ∧ y1 ≤ 5 := ⟨_, he, by split <;> omega⟩
          subst hy1
          clear he
          go_wp2_with fail
          refine (cu.most_m _ _ w9).mono ?_
          rintro e w2 ⟨he, rfl⟩
          obtain ⟨y, hy, hy9⟩ : ∃ y : Int, e = .returned (.int .i64 y) ∧ y.natAbs ≤ 1000 := ⟨_, he, by split <;> omega⟩
          subst hy
          clear he
          have B9 := hide (nat_snoc BZ.out hy9)
          clear hy9 h5
          go_wp2_with (at_builtin; refine wpList_append_sl rfl (.tmp 26) (.tmp 34) rfl elem_int rfl rfl (Own.alloc OW2.out _) (Sl.one w2 (.int .i64 y) 3) (one_int y) ?c1 ?c2 ?c3 ?_)
          case c1 => omega
          case c2 => omega
          case c3 => have := S2.out.b1.lt; simp; omega
          intro A3 c3 w3 hap
          have S2a := hide (S2.out.ext hg (Ext.alloc w2 (.cells #[.int .i64 y] 3)))
          have fB : ∀ i ∈ (A2.map (·.block)).toList, w.heap.size + 1 < i ∧ i ∉ fp ∧ i ∉ [] := fun i hi => by
            obtain ⟨p, hp, rfl⟩ := mem_of_opt hi
            have h1 := Own.fromLo OW2.out p hp
            exact ⟨by omega, DI.out p hp⟩
          have tg := TchF.of_grown (fp := (A2.map (·.block)).toList) hap.grew (fun p hp => by subst hp; simp)
          have S3 := hide (S2a.out.keep hg tg (fun i hi => .inr (⟨(fB i hi).1, (fB i hi).2.1, (fB i hi).2.2⟩)))
          have C3 := hide ((C2.out.ext (Ext.alloc w2 (.cells #[.int .i64 y] 3))).tchF tg (fun i hi => by have := fB i hi; omega))
          have O3 := hide (row_apd hap)
          have D3 : Hid (∀ p, A3 = some p → p.block ∉ fp ∧ p.block ∉ []) := fun p hp => by
            rcases hap.where_ with e | e
            · rw [hp] at e
              have := fB p.block (by rw [← e]; simp)
              exact this.2
            · rw [hp] at e
              simp at e
              have h1 := S2.out.og.lt
              have h2 := S2.out.oc.lt
              exact ⟨fun hm => by have := h1 _ hm; omega, fun hm => by simp at hm⟩
          have z3 := tg.size
          clear hap tg fB
          go_wp2
          go_roundw
          case rel => exact ⟨j + 1, A3, c3, zs ++ [y], B9.out, by omega, by go_num, O3.out, D3.out, S3.out, C3.out, by simp at z3; omega⟩
          case measure => simp [lenV]; omega
        · have ej : J = j := by omega
          subst ej
          have LZ : Hid (zs.length = J ∧ ∀ z ∈ zs, z.natAbs ≤ 1000) := ⟨OW.out.len, BZ.out⟩
          have KO := hide (kdL.own_ext (own_row OW.out) (Ext.alloc wr (.cells #[.slice A2 J c2] 31)))
          have SA := hide (SQ.out.ext hg (Ext.alloc wr (.cells #[.slice A2 J c2] 31)))
          have FL : Hid (∀ i ∈ (A2.map (·.block)).toList, w.heap.size + 1 < i ∧ i ∉ fp ∧ i ∉ []) := fun i hi => by
            obtain ⟨p, hp, rfl⟩ := mem_of_opt hi
            have h1 := Own.fromLo OW.out p hp
            exact ⟨by omega, DI.out p hp⟩
          have D1 : Hid (∀ i ∈ (A2.map (·.block)).toList, i ∉ fp) := fun i hi => (FL.out i hi).2.1
          have D2 := hide (row_src wr (.slice A2 J c2) 31)
          have CA := hide (CQ.out.ext (Ext.alloc wr (.cells #[.slice A2 J c2] 31)))
          have q0 := SQ.out.b1.cell 0
          have q1 := SQ.out.b1.cell 1
          simp only [List.getElem?_toArray, List.getElem?_cons_zero, List.getElem?_cons_succ] at q0 q1
          have b1 : (k + 1) * 24 ≤ 140737488355328 := by omega
          have b2 : k + 1 ≤ 4611686018427387904 := by omega
          go_wp2_with (at_builtin; refine wpList_append_LO (K := kdL) rfl (.tmp 37) (.tmp 39) rfl elemN_row (by decide) HL.out.symm rfl rfl SA.out.og KO.out D1.out D2.out b1 b2 ?_)
          intro A4 c4 w4 fp4 hap
          have S4 := hide (SA.out.pushG hg hap LZ.out (fun i hi => ⟨(FL.out i hi).1, (FL.out i hi).2.2⟩))
          have b4 := SA.out.b1.tchF hap.tch (fun hm => by have := SA.out.bg _ hm; omega)
          have f4 := b4.free
          have c4_ := b4.cell 0
          simp only [List.getElem?_toArray, List.getElem?_cons_zero] at c4_
          clear b4
          have C4 := hide ((CA.out.tchF hap.tch (fun i hi => by have := SA.out.bg i hi; omega)).tchF (TchF.put w4 ⟨w.heap.size + 1, 0, none⟩ (.slice A4 (k + 1) c4) (fp := [w.heap.size + 1]) (by simp)) (fun i hi => by simp at hi; omega))
          have L4 := hide S4.out.lenG
          clear hap
          go_wp2
          go_roundw
          case rel => exact ⟨k + 1, A4, c4, xs ++ [zs], fp4, by omega, S4.out, C4.out.more (by omega)⟩
          case measure => rw [LA.out, L4.out]; omega
    · have ek : n = k := by omega
      subst ek
      obtain ⟨Ag, cg, xg, fg, ST1, C1⟩ : ∃ Ag cg xg fg, Hid (MkSt w wr g J Ag n cg xg fg none 0 0 [] []) ∧ Hid (Cur wr g (N + 2 + 20 * n)) := ⟨A5, c5, xs, fp, ST, CU⟩
      clear ST CU LA q0 q1 HL A5 c5 xs fp
      have q0 := ST1.out.b1.cell 0
      have q1 := ST1.out.b1.cell 1
      simp only [List.getElem?_toArray, List.getElem?_cons_zero, List.getElem?_cons_succ] at q0 q1
      go_wp2
      go_loopw [9] (fun _ wr => ∃ (k : Nat) (A5 : Option Addr) (c5 : Nat) (xs : List (List Int)) (fp : List Nat), k ≤ 3 ∧ MkSt w wr g J Ag n cg xg fg A5 k c5 xs fp ∧ Cur wr g (N + 2 + 20 * n + 20 * k)) (fun _ wr => 3 - lenAt wr (w.heap.size + 1) 1)
      case atStart => exact ⟨0, none, 0, [], [], Nat.zero_le _, ST1.out, C1.out⟩
      case round =>
        obtain ⟨k, A5, c5, xs, fp, hk, st, cur⟩ := hrel
        have ST := hide st
        have CU := hide cur
        have LA := hide st.lenC
        clear st cur
        have q0 := ST.out.b1.cell 0
        have q1 := ST.out.b1.cell 1
        simp only [List.getElem?_toArray, List.getElem?_cons_zero, List.getElem?_cons_succ] at q0 q1
        have HL := hide ST.out.lc
        have sz := ST.out.b1.lt
        by_cases hlt : k < 3
        · go_wp2_with fail
          refine (PK.out wr 37 _ CU.out (by omega) (by unfold InR; omega)).mono ?_
          rintro e w1 ⟨r, rfl, r0, r1, -, c1, k1⟩
          have r2 := r1 (by omega)
          have C1 := hide c1
          have ST1 := hide (ST.out.curs hg k1)
          have z1 := k1.size
          clear c1 k1 r1 q0 q1
          go_wp2
          go_loopw [10] (fun l wq => ∃ (j : Nat) (A2 : Option Addr) (c2 : Nat) (zs : List Int), (∀ z ∈ zs, z.natAbs ≤ 1000) ∧ j ≤ J ∧ l = .slice A2 j c2 ∧ OwnI 3 wq (w.heap.size + 2) A2 j c2 zs ∧ (∀ p, A2 = some p → p.block ∉ fp ∧ p.block ∉ fg) ∧ MkSt w wq g J Ag n cg xg fg A5 k c5 xs fp ∧ Cur wq g (N + 2 + 20 * n + 20 * k + 2 + 2 * j) ∧ wr.heap.size ≤ wq.heap.size) (fun l _ => J - lenV l)
          case atStart => exact ⟨0, none, 0, [], by simp, Nat.zero_le _, rfl, OwnI.nil, (fun p hp => by cases hp), ST1.out, C1.out, z1⟩
          case round =>
            obtain ⟨j, A2, c2, zs, bz, hj, rfl, own, dis, st, cur, zq⟩ := hrel
            have BZ := hide bz
            clear bz
            have OW := hide own
            have DI := hide dis
            have SQ := hide st
            have CQ := hide cur
            have ca := own.capn
            have cb := own.capm
            clear own dis st cur
            by_cases hjl : j < J
            · go_wp2_with fail
              refine (PK.out wr 4 _ CQ.out (by omega) (by unfold InR; omega)).mono ?_
              rintro e w2 ⟨q, rfl, s0, s1, -, c2', k2⟩
              have s2 := s1 (by omega)
              have C2 := hide c2'
              have S2 := hide (SQ.out.curs hg k2)
              have OW2 := hide (own_tch OW.out k2 (fun p hp => by have := Own.fromLo OW.out p hp; simp; omega))
              have z2 := k2.size
              clear c2' k2 s1
              obtain ⟨y, hy⟩ : ∃ y, Hid (y = 25 * (r + q)) := ⟨_, rfl⟩
              have B9 := hide (nat_snoc (y := y) BZ.out (by rw [hy.out]; omega))
              go_wp2_with (at_builtin; rw [← hy.out]; refine wpList_append_sl rfl (.tmp 52) (.tmp 58) rfl elem_int rfl rfl (Own.alloc OW2.out _) (Sl.one w2 (.int .i64 y) 3) (one_int y) ?c1 ?c2 ?c3 ?_)
              case c1 => omega
              case c2 => omega
              case c3 => have := S2.out.b1.lt; simp; omega
              intro A3 c3 w3 hap
              have S2a := hide (S2.out.ext hg (Ext.alloc w2 (.cells #[.int .i64 y] 3)))
              have fB : ∀ i ∈ (A2.map (·.block)).toList, w.heap.size + 1 < i ∧ i ∉ fp ∧ i ∉ fg := fun i hi => by
                obtain ⟨p, hp, rfl⟩ := mem_of_opt hi
                have h1 := Own.fromLo OW2.out p hp
                exact ⟨by omega, DI.out p hp⟩
              have tg := TchF.of_grown (fp := (A2.map (·.block)).toList) hap.grew (fun p hp => by subst hp; simp)
              have S3 := hide (S2a.out.keep hg tg (fun i hi => .inr (⟨(fB i hi).1, (fB i hi).2.2, (fB i hi).2.1⟩)))
              have C3 := hide ((C2.out.ext (Ext.alloc w2 (.cells #[.int .i64 y] 3))).tchF tg (fun i hi => by have := fB i hi; omega))
              have O3 := hide (row_apd hap)
              have D3 : Hid (∀ p, A3 = some p → p.block ∉ fp ∧ p.block ∉ fg) := fun p hp => by
                rcases hap.where_ with e | e
                · rw [hp] at e
                  have := fB p.block (by rw [← e]; simp)
                  exact this.2
                · rw [hp] at e
                  simp at e
                  have h1 := S2.out.oc.lt
                  have h2 := S2.out.og.lt
                  exact ⟨fun hm => by have := h1 _ hm; omega, fun hm => by have := h2 _ hm; omega⟩
              have z3 := tg.size
              clear hap tg fB
              go_wp2
              go_roundw
              case rel => exact ⟨j + 1, A3, c3, zs ++ [y], B9.out, by omega, by go_num, O3.out, D3.out, S3.out, C3.out, by simp at z3; omega⟩
              case measure => simp [lenV]; omega
            · have ej : J = j := by omega
              subst ej
              have LZ : Hid (zs.length = J ∧ ∀ z ∈ zs, z.natAbs ≤ 1000) := ⟨OW.out.len, BZ.out⟩
              have KO := hide (kdL.own_ext (own_row OW.out) (Ext.alloc wr (.cells #[.slice A2 J c2] 31)))
              have SA := hide (SQ.out.ext hg (Ext.alloc wr (.cells #[.slice A2 J c2] 31)))
              have FL : Hid (∀ i ∈ (A2.map (·.block)).toList, w.heap.size + 1 < i ∧ i ∉ fp ∧ i ∉ fg) := fun i hi => by
                obtain ⟨p, hp, rfl⟩ := mem_of_opt hi
                have h1 := Own.fromLo OW.out p hp
                exact ⟨by omega, DI.out p hp⟩
              have D1 : Hid (∀ i ∈ (A2.map (·.block)).toList, i ∉ fp) := fun i hi => (FL.out i hi).2.1
              have D2 := hide (row_src wr (.slice A2 J c2) 31)
              have CA := hide (CQ.out.ext (Ext.alloc wr (.cells #[.slice A2 J c2] 31)))
              have q0 := SQ.out.b1.cell 0
              have q1 := SQ.out.b1.cell 1
              simp only [List.getElem?_toArray, List.getElem?_cons_zero, List.getElem?_cons_succ] at q0 q1
              have b1 : (k + 1) * 24 ≤ 140737488355328 := by omega
              have b2 : k + 1 ≤ 4611686018427387904 := by omega
              go_wp2_with (at_builtin; refine wpList_append_LO (K := kdL) rfl (.tmp 61) (.tmp 63) rfl elemN_row (by decide) HL.out.symm rfl rfl SA.out.oc KO.out D1.out D2.out b1 b2 ?_)
              intro A4 c4 w4 fp4 hap
              have S4 := hide (SA.out.pushC hg hap LZ.out (fun i hi => ⟨(FL.out i hi).1, (FL.out i hi).2.2⟩))
              have b4 := SA.out.b1.tchF hap.tch (fun hm => by have := SA.out.bc _ hm; omega)
              have f4 := b4.free
              have c4_ := b4.cell 1
              simp only [List.getElem?_toArray, List.getElem?_cons_zero, List.getElem?_cons_succ] at c4_
              clear b4
              have C4 := hide ((CA.out.tchF hap.tch (fun i hi => by have := SA.out.bc i hi; omega)).tchF (TchF.put w4 ⟨w.heap.size + 1, 1, none⟩ (.slice A4 (k + 1) c4) (fp := [w.heap.size + 1]) (by simp)) (fun i hi => by simp at hi; omega))
              have L4 := hide S4.out.lenC
              clear hap
              go_wp2
              go_roundw
              case rel => exact ⟨k + 1, A4, c4, xs ++ [zs], fp4, by omega, S4.out, C4.out.more (by omega)⟩
              case measure => rw [LA.out, L4.out]; omega
        · have ek : 3 = k := by omega
          subst ek
          have r1 := ST.out.b0.cell; have f1 := ST.out.b0.free
          go_wp2
          refine bodyPost_ret (v := .agg #[.slice Ag n cg, .slice A5 3 c5]) (by simp [results, Tryz.results42, go_sem, r1]) rfl ?_
          have hk : ∀ i, w.heap.size + 1 < i → ((wr.setCell ⟨w.heap.size, 0, none⟩ (.slice Ag n cg)).setCell ⟨w.heap.size, 1, none⟩ (.slice A5 3 c5)).heap[i]? = wr.heap[i]? := by
            intro i hi
            rw [Below.heap_setCell _ _ _ _ (by simp; omega), Below.heap_setCell _ _ _ _ (by simp; omega)]
          have t2 := (TchF.put wr ⟨w.heap.size, 0, none⟩ (.slice Ag n cg) (fp := [w.heap.size]) (by simp)).trans (TchF.put (wr.setCell ⟨w.heap.size, 0, none⟩ (.slice Ag n cg)) ⟨w.heap.size, 1, none⟩ (.slice A5 3 c5) (fp := [w.heap.size]) (by simp))
          refine ⟨_, (xg, xs), J, rfl, kM.mk (ST.out.og.keep (fun i hi => hk i (ST.out.bg i hi))) (ST.out.oc.keep (fun i hi => hk i (ST.out.bc i hi))) ST.out.lg.symm ST.out.lc.symm (fun i hi => ?_) (fun i hi => ?_) ST.out.dj, ST.out.lg, ST.out.lc, J3, J9, ST.out.rg, ST.out.rc, (CU.out.tchF t2 (fun i hi => by simp at hi; omega)).more (by omega), ST.out.tch.step t2 (fun i hi => .inr (by simp at hi; omega))⟩
          · have h1 := ST.out.bg i hi; have h2 := ST.out.og.lt i hi; simp; omega
          · have h1 := ST.out.bc i hi; have h2 := ST.out.oc.lt i hi; simp; omega
theorem cu.marks_m (w : World) (g N n : Nat) (h : Cur w g N) (hN : N ≤ 4611686018420000000) (hn : n ≤ 1000) :
    Calls Tryz.prog 42 #[.pointer (some ⟨g, 0, none⟩), .int .i64 n] w fun e w' => ∃ v d J, e = .returned v ∧ kM.fr w' w.heap.size w'.heap.size v d ∧ d.1.length = n ∧ d.2.length = 3 ∧ 3 ≤ J ∧ J ≤ 9 ∧ (∀ x ∈ d.1, x.length = J) ∧ (∀ x ∈ d.2, x.length = J) ∧ Cur w' g (N + 20 * n + 100) ∧ TchF [g] w w' := by
  refine (cu.marks_b w g N n h hN hn).mono ?_
  rintro e w' ⟨v, d, J, h1, h2, h3, h4, h5, h6, h7, h8, h9⟩
  exact ⟨v, d, J, h1, h2, h3, h4, h5, h6, fun x hx => (h7 x hx).1, fun x hx => (h8 x hx).1, h9⟩
end Go.Proofs.YtnokilofcdbjhaaGreatDoor

/- What is read above a block; lists that share their inner memory; marks under way in a draw. -/
namespace Go.Proofs.YtnokilofcdbjhaaGreatDoor
open Go.RowKit Go.Sort
set_option linter.unusedVariables false

/-- The value reads as d, and its memory lies in blocks from lo on. -/
def RdA {D : Type} (K : Kind D) (lo : Nat) (w : World) (v : Value) (d : D) : Prop :=
  ∀ w2 : World, w.heap.size ≤ w2.heap.size → (∀ i, lo ≤ i → i < w.heap.size → w2.heap[i]? = w.heap[i]?) → K.rd w2 v d
section
variable {D : Type} {K : Kind D} {w w' : World} {lo lo' hi : Nat} {v : Value} {d : D} {fp : List Nat}
theorem RdA.rd (h : RdA K lo w v d) : K.rd w v d := h w (Nat.le_refl _) (fun _ _ _ => rfl)
theorem RdA.tchF (h : RdA K lo w v d) (k : TchF fp w w') (hd : ∀ i ∈ fp, i < lo ∨ w.heap.size ≤ i) : RdA K lo w' v d := fun w2 hs hb =>
  h w2 (Nat.le_trans k.size hs) (fun i h1 h2 => (hb i h1 (Nat.lt_of_lt_of_le h2 k.size)).trans (k.block i h2 (fun hm => by have := hd i hm; omega)))
theorem RdA.ext (h : RdA K lo w v d) (k : Ext w w') : RdA K lo w' v d := h.tchF (TchF.of_ext k (fp := [])) (by simp)
theorem RdA.mono (h : RdA K lo w v d) (hl : lo' ≤ lo) : RdA K lo' w v d := fun w2 hs hb => h w2 hs (fun i h1 h2 => hb i (by omega) h2)
theorem RdA.far (h : RdA K lo w v d) {p : Addr} (hp : p.block < lo) (u : Value) : RdA K lo (w.setCell p u) v d := fun w2 hs hb =>
  h w2 (by simpa [World.setCell] using hs) (fun i h1 h2 => (hb i h1 (by simpa [World.setCell] using h2)).trans (Below.heap_setCell _ _ _ _ (by omega)))
end
theorem kM.rdA {w : World} {lo hi : Nat} {v : Value} {d : MD} (h : kM.fr w lo hi v d) : RdA kM lo w v d := by
  obtain ⟨vs, fp, rfl, h, hf⟩ := h
  intro w2 hs hb
  exact ⟨vs, rfl, kdM.own_rd (kdM.own_keep h (fun i hi => hb i (hf i hi).1 (kdM.own_lt h i hi)))⟩

/-- A row of slices that are read. -/
theorem LR.of_cells {w : World} {B g c : Nat} {xs : List (List Int)} (hg : g < B) (h1 : xs.length ≤ c) (h2 : c ≤ 9223372036854775807) (h : ∀ (k : Nat) (x : List Int), xs[k]? = some x → ∃ Ax cx, w.cell? ⟨g, k, none⟩ = some (.slice Ax x.length cx) ∧ LR kdInt w B Ax cx x) : LR kdL w B (some ⟨g, 0, none⟩) c xs := by
  refine ⟨h1, h2, fun k x hx => ?_⟩
  obtain ⟨Ax, cx, hc, hr⟩ := h k x hx
  refine ⟨g, 0, [.slice Ax x.length cx], rfl, hg, ⟨Ax, cx, rfl, hr⟩, fun j u hu => ?_⟩
  obtain rfl : j = 0 := by have := (List.getElem?_eq_some_iff.1 hu).1; simp at this; omega
  simp at hu
  subst hu
  rw [show 0 + (k * kdL.size + 0) = k from by show 0 + (k * 1 + 0) = k; omega]
  exact hc
theorem LR.mk {w : World} {A : Option Addr} {c : Nat} {xs : List (List Int)} {A' : Option Addr} {c' : Nat} {ys : List (List Int)} (h : LR kdL w w.heap.size A c xs) (h' : LR kdL w w.heap.size A' c' ys) : kM.rd w (.agg #[.slice A xs.length c, .slice A' ys.length c']) (xs, ys) :=
  ⟨[.slice A xs.length c, .slice A' ys.length c'], rfl, [.slice A xs.length c], [.slice A' ys.length c'], rfl, ⟨A, c, rfl, h⟩, ⟨A', c', rfl, h'⟩⟩

theorem wtL_le {xs : List (List Int)} {m : Nat} (h : ∀ x ∈ xs, x.length ≤ m) : wtL kdL xs ≤ (m + 1) * xs.length := by
  induction xs with
  | nil => exact Nat.zero_le _
  | cons x t ih =>
    have h1 := ih (fun y hy => h y (List.mem_cons_of_mem _ hy))
    have h2 : kdL.wt x = x.length := wtL_int x
    have h3 := h x (List.mem_cons_self ..)
    show 1 + kdL.wt x + wtL kdL t ≤ (m + 1) * (t.length + 1)
    rw [Nat.mul_add, Nat.mul_one]
    omega
theorem kM.ok_small {d : MD} {n : Nat} (hn : n ≤ 1000) (h1 : d.1.length ≤ n) (h2 : d.2.length ≤ 4) (h3 : ∀ x ∈ d.1, x.length ≤ 10) (h4 : ∀ x ∈ d.2, x.length ≤ 10) : kM.ok d := by
  have e1 := wtL_le h3
  have e2 := wtL_le h4
  have e3 : kdM.wt d = wtL kdL d.1 + wtL kdL d.2 := rfl
  show kdM.wt d ≤ 1048576
  omega

/-- Marks drawn: the result's cell, the box of both lists, the lists of the call's own. -/
structure AmSt (w wr : World) (g g5 : Nat) (A : Option Addr) (c : Nat) (A' : Option Addr) (c' : Nat) (d : MD) (fp fp' : List Nat) : Prop where
  b0 : Blk wr w.heap.size #[.slice none 0 0, .slice none 0 0] 25
  b5 : Blk wr g5 #[.slice A d.1.length c, .slice A' d.2.length c'] 25
  og : LO kdL 31 wr A c d.1 fp
  oc : LO kdL 31 wr A' c' d.2 fp'
  bg : ∀ i ∈ fp, w.heap.size < i ∧ i ≠ g5
  bc : ∀ i ∈ fp', w.heap.size < i ∧ i ≠ g5
  dj : ∀ i ∈ fp, i ∉ fp'
  h5 : w.heap.size < g5
  tch : TchF [g] w wr
section
variable {w wr w2 : World} {g g5 : Nat} {A : Option Addr} {c : Nat} {A' : Option Addr} {c' : Nat} {d : MD} {fp fp' : List Nat}
theorem AmSt.keep {fx : List Nat} (h : AmSt w wr g g5 A c A' c' d fp fp') (hg : g < w.heap.size) (k : TchF fx wr w2) (hd : ∀ i ∈ fx, i = g ∨ wr.heap.size ≤ i) : AmSt w w2 g g5 A c A' c' d fp fp' where
  b0 := h.b0.tchF k (fun hm => by have := h.b0.lt; rcases hd _ hm with e | e <;> omega)
  b5 := h.b5.tchF k (fun hm => by have := h.b5.lt; have := h.h5; rcases hd _ hm with e | e <;> omega)
  og := h.og.keep fun i hi => k.block i (h.og.lt i hi) (fun hm => by have := h.og.lt i hi; have := (h.bg i hi).1; rcases hd _ hm with e | e <;> omega)
  oc := h.oc.keep fun i hi => k.block i (h.oc.lt i hi) (fun hm => by have := h.oc.lt i hi; have := (h.bc i hi).1; rcases hd _ hm with e | e <;> omega)
  bg := h.bg
  bc := h.bc
  dj := h.dj
  h5 := h.h5
  tch := h.tch.step k fun i hi => by
    rcases hd i hi with e | e
    · exact .inl e
    · have := h.tch.size; exact .inr (by omega)
theorem AmSt.ext (h : AmSt w wr g g5 A c A' c' d fp fp') (hg : g < w.heap.size) (k : Ext wr w2) : AmSt w w2 g g5 A c A' c' d fp fp' := h.keep hg (TchF.of_ext k (fp := [])) (by simp)
theorem AmSt.curs (h : AmSt w wr g g5 A c A' c' d fp fp') (hg : g < w.heap.size) (k : TchF [g] wr w2) : AmSt w w2 g g5 A c A' c' d fp fp' := h.keep hg k (fun i hi => .inl (by simpa using hi))
theorem AmSt.fr (h : AmSt w wr g g5 A c A' c' d fp fp') : kM.fr wr (w.heap.size + 1) wr.heap.size (.agg #[.slice A d.1.length c, .slice A' d.2.length c']) d :=
  kM.mk h.og h.oc rfl rfl (fun i hi => ⟨(h.bg i hi).1, h.og.lt i hi⟩) (fun i hi => ⟨(h.bc i hi).1, h.oc.lt i hi⟩) h.dj
/-- A number stored among the grades, or among the marks of components. -/
theorem AmSt.setG {k j gx : Nat} {x : List Int} {z : Int} (h : AmSt w wr g g5 A c A' c' d fp fp') (hl : LO kdL 31 (wr.setCell ⟨gx, j, none⟩ (.int .i64 z)) A c (d.1.set k (x.set j z)) fp) (hm : gx ∈ fp) : AmSt w (wr.setCell ⟨gx, j, none⟩ (.int .i64 z)) g g5 A c A' c' (d.1.set k (x.set j z), d.2) fp fp' where
  b0 := h.b0.far (by have := (h.bg gx hm).1; simp; omega) _
  b5 := by have := h.b5.far (p := ⟨gx, j, none⟩) (Ne.symm (h.bg gx hm).2) (.int .i64 z); simpa using this
  og := hl
  oc := h.oc.keep fun i hi => Below.heap_setCell _ _ _ _ (fun (e : i = gx) => h.dj gx hm (e ▸ hi))
  bg := h.bg
  bc := h.bc
  dj := h.dj
  h5 := h.h5
  tch := h.tch.step (TchF.setCell wr ⟨gx, j, none⟩ (.int .i64 z) (fp := [gx]) (by simp)) fun i hi => .inr (by have := (h.bg gx hm).1; simp at hi; omega)
theorem AmSt.setC {k j gx : Nat} {x : List Int} {z : Int} (h : AmSt w wr g g5 A c A' c' d fp fp') (hl : LO kdL 31 (wr.setCell ⟨gx, j, none⟩ (.int .i64 z)) A' c' (d.2.set k (x.set j z)) fp') (hm : gx ∈ fp') : AmSt w (wr.setCell ⟨gx, j, none⟩ (.int .i64 z)) g g5 A c A' c' (d.1, d.2.set k (x.set j z)) fp fp' where
  b0 := h.b0.far (by have := (h.bc gx hm).1; simp; omega) _
  b5 := by have := h.b5.far (p := ⟨gx, j, none⟩) (Ne.symm (h.bc gx hm).2) (.int .i64 z); simpa using this
  og := h.og.keep fun i hi => Below.heap_setCell _ _ _ _ (fun (e : i = gx) => h.dj i hi (e ▸ hm))
  oc := hl
  bg := h.bg
  bc := h.bc
  dj := h.dj
  h5 := h.h5
  tch := h.tch.step (TchF.setCell wr ⟨gx, j, none⟩ (.int .i64 z) (fp := [gx]) (by simp)) fun i hi => .inr (by have := (h.bc gx hm).1; simp at hi; omega)
end
/-- The result stored in its own cells. -/
theorem ret_two {w wr : World} {g lo N : Nat} {v u0 u1 : Value} {d : MD} (h : RdA kM lo wr v d) (hl : w.heap.size < lo) (hc : Cur wr g N) (hg : g < w.heap.size) (ht : TchF [g] w wr) :
    RdA kM w.heap.size ((wr.setCell ⟨w.heap.size, 0, none⟩ u0).setCell ⟨w.heap.size, 1, none⟩ u1) v d ∧ Cur ((wr.setCell ⟨w.heap.size, 0, none⟩ u0).setCell ⟨w.heap.size, 1, none⟩ u1) g N ∧ TchF [g] w ((wr.setCell ⟨w.heap.size, 0, none⟩ u0).setCell ⟨w.heap.size, 1, none⟩ u1) := by
  have t2 := (TchF.put wr ⟨w.heap.size, 0, none⟩ u0 (fp := [w.heap.size]) (by simp)).trans (TchF.put (wr.setCell ⟨w.heap.size, 0, none⟩ u0) ⟨w.heap.size, 1, none⟩ u1 (fp := [w.heap.size]) (by simp))
  exact ⟨((h.far (by simpa using hl) u0).far (by simpa using hl) u1).mono (by omega), hc.tchF t2 (fun i hi => by simp at hi; omega), ht.step t2 (fun i hi => .inr (by simp at hi; omega))⟩
end Go.Proofs.YtnokilofcdbjhaaGreatDoor

/- Marks whose lists share a row, or hold a part of one. -/
namespace Go.Proofs.YtnokilofcdbjhaaGreatDoor
open Go.RowKit Go.Sort
set_option linter.unusedVariables false

theorem LO.rowAt {w : World} {A : Option Addr} {c : Nat} {xs : List (List Int)} {fp : List Nat} (h : LO kdL 31 w A c xs fp) (k : Nat) (x : List Int) (hx : xs[k]? = some x) :
    ∃ g Ax cx f, A = some ⟨g, 0, none⟩ ∧ g ∈ fp ∧ w.cell? ⟨g, k, none⟩ = some (.slice Ax x.length cx) ∧ w.frozen? ⟨g, k, none⟩ = false ∧ LO kdInt 3 w Ax cx x f ∧ ∀ i ∈ f, i ∈ fp ∧ i ≠ g := by
  obtain ⟨g, cs, f, hat⟩ := h.at_ k x hx
  obtain ⟨Ax, cx, hcs, hlo⟩ := hat.own
  have hcs : cs = [.slice Ax x.length cx] := hcs
  subst hcs
  have hc : w.cell? ⟨g, k, none⟩ = some (.slice Ax x.length cx) := by
    have := hat.cell 0 _ rfl
    simpa [kdL, kdList] using this
  exact ⟨g, Ax, cx, f, hat.addr, hat.mem, hc, hat.free k, hlo, hat.sub⟩
theorem LO.flatOwn {w : World} {A : Option Addr} {c : Nat} {xs : List (List Int)} {fp : List Nat} (h : LO kdL 31 w A c xs fp) : ∃ vs, Own 31 w 0 A xs.length c vs := by
  obtain ⟨css, fps, hr, _⟩ := h
  exact ⟨css.flatten, hr⟩
theorem SlI.drop1 {w : World} {B n : Nat} {g : Nat} {x : List Int} (h : SlI w B (some ⟨g, 0, none⟩) n x) (hn : 0 < n) : SlI w B (some ⟨g, 1, none⟩) (n - 1) (x.drop 1) := by
  have hl := h.len
  obtain ⟨b, off, e, hb, hc⟩ := h.2 hn
  simp only [Option.some.injEq, Addr.mk.injEq, and_true] at e
  obtain ⟨rfl, rfl⟩ := e
  refine ⟨by simp; omega, fun _ => ⟨g, 1, rfl, hb, fun k u hu => ?_⟩⟩
  have := hc (k + 1) u (by rw [← hu]; simp)
  rwa [show 0 + (k + 1) = 1 + k by omega] at this

section
variable {w wr : World} {g g5 : Nat} {A : Option Addr} {c : Nat} {A' : Option Addr} {c' : Nat} {d : MD} {fp fp' : List Nat}
/-- One row of the second list cut by its first number. -/
theorem AmSt.share4 (h : AmSt w wr g g5 A c A' c' d fp fp') (k1 : Nat) (x : List Int) (hx : d.2[k1]? = some x) (hx0 : 0 < x.length) :
    ∃ gC gx cx, A' = some ⟨gC, 0, none⟩ ∧ gC ∈ fp' ∧ wr.cell? ⟨gC, k1, none⟩ = some (.slice (some ⟨gx, 0, none⟩) x.length cx) ∧ wr.frozen? ⟨gC, k1, none⟩ = false ∧ x.length ≤ cx ∧ cx ≤ 9223372036854775807 ∧
      ∀ wz, Ext wr wz → RdA kM (w.heap.size + 1) (wz.setCell ⟨gC, k1, none⟩ (.slice (some ⟨gx, 1, none⟩) (x.length - 1) (cx - 1))) (.agg #[.slice A d.1.length c, .slice A' d.2.length c']) (d.1, d.2.set k1 (x.drop 1)) := by
  obtain ⟨gC, Ax, cx, f, rfl, hm, hc, hfz, hlo, hf⟩ := h.oc.rowAt k1 x hx
  have ho := hlo.own.1
  obtain ⟨gx, rfl, _, _, hcx⟩ := ho.pos hx0
  have hk1 := (List.getElem?_eq_some_iff.1 hx).1
  refine ⟨gC, gx, cx, rfl, hm, hc, hfz, hcx, ho.capm, fun wz hz w2 hs hb => ?_⟩
  have hs : wz.heap.size ≤ w2.heap.size := by simpa [World.setCell] using hs
  have hk : ∀ i, w.heap.size < i → i < wr.heap.size → i ≠ gC → w2.heap[i]? = wr.heap[i]? := fun i h1 h2 h3 =>
    ((hb i (by omega) (by have := hz.size; simp [World.setCell]; omega)).trans (Below.heap_setCell _ _ _ _ h3)).trans (hz.block i h2)
  have kG : ∀ i ∈ fp, w2.heap[i]? = wr.heap[i]? := fun i hi => hk i (h.bg i hi).1 (h.og.lt i hi) (fun e => h.dj i hi (e ▸ hm))
  have rG := (h.og.keep kG).rd
  obtain ⟨vs, hv⟩ := h.oc.flatOwn
  have gl : gC < wr.heap.size := h.oc.lt gC hm
  have hv2 : Own 31 w2 0 (some ⟨gC, 0, none⟩) d.2.length c' (vs.set k1 (.slice (some ⟨gx, 1, none⟩) (x.length - 1) (cx - 1))) := by
    have hz1 : Own 31 wz 0 (some ⟨gC, 0, none⟩) d.2.length c' vs := hv.keepB (fun p hp => by cases hp; exact hz.block gC gl)
    refine (Own.set hz1 k1 (.slice (some ⟨gx, 1, none⟩) (x.length - 1) (cx - 1))).keepB (fun p hp => ?_)
    cases hp
    exact hb gC (by have := (h.bc gC hm).1; omega) (by have := hz.size; simp [World.setCell]; omega)
  have hvl := hv.len
  have rC : LR kdL w2 w2.heap.size (some ⟨gC, 0, none⟩) c' (d.2.set k1 (x.drop 1)) := by
    refine LR.of_cells (by have := hz.size; omega) (by rw [List.length_set]; exact hv.capn) hv.capm (fun k y hy => ?_)
    have hkl : k < d.2.length := by have := (List.getElem?_eq_some_iff.1 hy).1; simpa using this
    have hcell := hv2.cell k hkl
    rw [List.getElem?_set] at hcell hy
    by_cases e : k1 = k
    · subst e
      rw [if_pos rfl, if_pos hk1] at hy
      rw [if_pos rfl, if_pos (by omega)] at hcell
      injection hy with hy
      subst hy
      refine ⟨some ⟨gx, 1, none⟩, cx - 1, by rw [hcell]; simp, ?_⟩
      have kx : ∀ i ∈ f, w2.heap[i]? = wr.heap[i]? := fun i hi => hk i (h.bc i (hf i hi).1).1 (h.oc.lt i (hf i hi).1) (hf i hi).2
      have s1 := ((hlo.keep kx).rd).sl.drop1 hx0
      refine s1.lr ?_ ?_
      · simp; omega
      · have := ho.capm; omega
    · rw [if_neg e] at hy hcell
      obtain ⟨gC', Ay, cy, fy, e1, _, hcy, _, hly, hfy⟩ := h.oc.rowAt k y hy
      simp only [Option.some.injEq, Addr.mk.injEq, and_true] at e1
      subst e1
      have ky : ∀ i ∈ fy, w2.heap[i]? = wr.heap[i]? := fun i hi => hk i (h.bc i (hfy i hi).1).1 (h.oc.lt i (hfy i hi).1) (hfy i hi).2
      have h9 := hv.cell k hkl
      exact ⟨Ay, cy, by rw [hcell, ← h9]; exact hcy, (hly.keep ky).rd⟩
  have e2 : d.2.length = (d.2.set k1 (x.drop 1)).length := by simp
  rw [e2]
  exact LR.mk rG rC
/-- The first row once more at the end. -/
theorem AmSt.share3 (h : AmSt w wr g g5 A c A' c' d fp fp') (x : List Int) (hx : d.2[0]? = some x) :
    ∃ gC Ax cx vs, A' = some ⟨gC, 0, none⟩ ∧ gC ∈ fp' ∧ wr.cell? ⟨gC, 0, none⟩ = some (.slice Ax x.length cx) ∧ x.length ≤ cx ∧ cx ≤ 9223372036854775807 ∧ Own 31 wr 0 A' d.2.length c' vs ∧
      ∀ wq w3 A3 c3 u, Ext wr wq → Apd 31 wq 0 A' w3 A3 (d.2.length + 1) c3 (vs ++ [.slice Ax x.length cx]) → RdA kM (w.heap.size + 1) (w3.setCell ⟨g5, 1, none⟩ u) (.agg #[.slice A d.1.length c, .slice A3 (d.2.length + 1) c3]) (d.1, d.2 ++ [x]) := by
  obtain ⟨gC, Ax, cx, f, rfl, hm, hc, _, hlo, hf⟩ := h.oc.rowAt 0 x hx
  have ho := hlo.own.1
  obtain ⟨vs, hv⟩ := h.oc.flatOwn
  refine ⟨gC, Ax, cx, vs, rfl, hm, hc, ho.capn, ho.capm, hv, fun wq w3 A3 c3 u hz hap w2 hs hb => ?_⟩
  have hs : w3.heap.size ≤ w2.heap.size := by simpa [World.setCell] using hs
  have hs3 := hap.grew.size
  have hzs := hz.size
  have g5l := h.b5.lt
  have hk : ∀ i, w.heap.size < i → i < wr.heap.size → i ≠ gC → i ≠ g5 → w2.heap[i]? = wr.heap[i]? := fun i h1 h2 h3 h4 =>
    (((hb i (by omega) (by simp [World.setCell]; omega)).trans (Below.heap_setCell _ _ _ _ (by simpa using h4))).trans (hap.grew.block i (by omega) (by simpa using h3))).trans (hz.block i h2)
  have kG : ∀ i ∈ fp, w2.heap[i]? = wr.heap[i]? := fun i hi => hk i (h.bg i hi).1 (h.og.lt i hi) (fun e => h.dj i hi (e ▸ hm)) (h.bg i hi).2
  have rG := (h.og.keep kG).rd
  have hn3 : 0 < d.2.length + 1 := by omega
  obtain ⟨g3, rfl, _, g3l, hc3⟩ := hap.own.pos hn3
  have g3h : w.heap.size < g3 ∧ g3 ≠ g5 := by
    rcases hap.where_ with e | e
    · simp at e
      rw [e]
      exact h.bc gC hm
    · simp at e
      have := h.tch.size
      have := h.h5
      omega
  have hv2 : Own 31 w2 0 (some ⟨g3, 0, none⟩) (d.2.length + 1) c3 (vs ++ [.slice Ax x.length cx]) := by
    refine hap.own.keepB (fun p hp => ?_)
    cases hp
    exact (hb g3 (by omega) (by simp [World.setCell]; omega)).trans (Below.heap_setCell _ _ _ _ (by simpa using g3h.2))
  have hvl := hv.len
  have hrow : ∀ (k : Nat) (y : List Int), d.2[k]? = some y → ∃ Ay cy, vs[k]? = some (.slice Ay y.length cy) ∧ LR kdInt w2 w2.heap.size Ay cy y := by
    intro k y hy
    obtain ⟨gC', Ay, cy, fy, e1, _, hcy, _, hly, hfy⟩ := h.oc.rowAt k y hy
    simp only [Option.some.injEq, Addr.mk.injEq, and_true] at e1
    subst e1
    have ky : ∀ i ∈ fy, w2.heap[i]? = wr.heap[i]? := fun i hi => hk i (h.bc i (hfy i hi).1).1 (h.oc.lt i (hfy i hi).1) (hfy i hi).2 (h.bc i (hfy i hi).1).2
    have h9 := hv.cell k (List.getElem?_eq_some_iff.1 hy).1
    exact ⟨Ay, cy, by rw [← h9]; exact hcy, (hly.keep ky).rd⟩
  have rC : LR kdL w2 w2.heap.size (some ⟨g3, 0, none⟩) c3 (d.2 ++ [x]) := by
    refine LR.of_cells (by omega) (by simpa using hap.own.capn) hap.own.capm (fun k y hy => ?_)
    have hkl : k < d.2.length + 1 := by have := (List.getElem?_eq_some_iff.1 hy).1; simpa using this
    have hcell := hv2.cell k hkl
    by_cases e : k < d.2.length
    · rw [List.getElem?_append_left e] at hy
      rw [List.getElem?_append_left (by omega)] at hcell
      obtain ⟨Ay, cy, h1, h2⟩ := hrow k y hy
      exact ⟨Ay, cy, by rw [hcell, h1], h2⟩
    · obtain rfl : k = d.2.length := by omega
      rw [List.getElem?_append_right (Nat.le_refl _), Nat.sub_self] at hy
      rw [List.getElem?_append_right (by omega), hvl, Nat.sub_self] at hcell
      simp only [List.getElem?_cons_zero, Option.some.injEq] at hy
      subst hy
      obtain ⟨Ay, cy, h1, h2⟩ := hrow 0 x hx
      have h9 := hv.cell 0 (List.getElem?_eq_some_iff.1 hx).1
      rw [hc, h1] at h9
      simp only [Option.some.injEq, Value.slice.injEq, true_and] at h9
      obtain ⟨rfl, rfl⟩ := h9
      exact ⟨_, _, by rw [hcell]; rfl, h2⟩
  have e2 : d.2.length + 1 = (d.2 ++ [x]).length := by simp
  rw [e2]
  exact LR.mk rG rC
end
theorem made_zeroD (n : Nat) : (madeCells #[Value.int .i64 0] n).toList = (List.replicate n (0 : Int)).map (Value.int .i64) := by
  have h := part_made (List.replicate n 0) n (by simp)
  rw [h]
  congr 1
  simp [part]
theorem OwnI.madeD (w : World) {lo : Nat} (n : Nat) (hn : n ≤ 1048576) (hlo : lo ≤ w.heap.size) : OwnI 3 (w.alloc (.cells (madeCells #[.int .i64 0] n) 3)) lo (some ⟨w.heap.size, 0, none⟩) n n (List.replicate n 0) := by
  have h := World.ownsRow_lit (e := 3) (size := 1) (base := lo) w (madeCells #[.int .i64 0] n) n hlo (by unfold maxLen; omega) (by simp [madeCells])
  rw [made_zeroD] at h
  exact h
section
variable {w wr : World} {g g5 : Nat} {A : Option Addr} {c : Nat} {A' : Option Addr} {c' : Nat} {d : MD} {fp fp' : List Nat}
/-- One number: where it lies, and what a store there leaves, in every later world. -/
theorem AmSt.spotG (h : AmSt w wr g g5 A c A' c' d fp fp') (hg : g < w.heap.size) (k : Nat) (x : List Int) (hx : d.1[k]? = some x) (j : Nat) (hj : j < x.length) :
    ∃ gG gx cx, A = some ⟨gG, 0, none⟩ ∧ wr.cell? ⟨gG, k, none⟩ = some (.slice (some ⟨gx, 0, none⟩) x.length cx) ∧ x.length ≤ cx ∧ cx ≤ 9223372036854775807 ∧ w.heap.size < gx ∧ gx ≠ g5 ∧ gx ≠ gG ∧ gG ≠ g ∧ gG < wr.heap.size ∧
      ∀ wz, TchF [g] wr wz → wz.cell? ⟨gx, j, none⟩ = some (.int .i64 (x.getD j 0)) ∧ wz.frozen? ⟨gx, j, none⟩ = false ∧ ∀ z, AmSt w (wz.setCell ⟨gx, j, none⟩ (.int .i64 z)) g g5 A c A' c' (d.1.set k (x.set j z), d.2) fp fp' := by
  obtain ⟨gG, gx, cx, e, s1, s2, s3, s4, s5, s6, s7⟩ := h.og.spot k x hx j hj
  obtain ⟨gA, Ay, cy, f, ea, hm, hcy, _, hly, hf⟩ := h.og.rowAt k x hx
  have ea := e.symm.trans ea
  simp only [Option.some.injEq, Addr.mk.injEq, and_true] at ea
  subst ea
  rw [s1] at hcy
  simp only [Option.some.injEq, Value.slice.injEq, true_and] at hcy
  have hgx : gx ≠ gG := (hf gx (by rw [hly.own.2, ← hcy.1]; simp)).2
  have hgG : gG ≠ g := by have := (h.bg gG hm).1; omega
  have hlt : gG < wr.heap.size := h.og.lt gG hm
  refine ⟨gG, gx, cx, e, s1, s2, s3, (h.bg gx s4).1, (h.bg gx s4).2, hgx, hgG, hlt, fun wz hz => ?_⟩
  have h2 := h.curs hg hz
  obtain ⟨gG', gx', cx', e', t1, _, _, t4, t5, t6, t7⟩ := h2.og.spot k x hx j hj
  subst e
  simp only [Option.some.injEq, Addr.mk.injEq, and_true] at e'
  subst e'
  have e3 : wz.cell? ⟨gG, k, none⟩ = wr.cell? ⟨gG, k, none⟩ := World.cell?_of_block (w := wr) (hz.block gG hlt (by simpa using hgG))
  rw [t1, s1] at e3
  simp only [Option.some.injEq, Value.slice.injEq, Addr.mk.injEq, true_and, and_true] at e3
  obtain ⟨rfl, rfl⟩ := e3
  exact ⟨t5, t6, fun z => h2.setG (t7 z) t4⟩
/-- One number: where it lies, and what a store there leaves, in every later world. -/
theorem AmSt.spotC (h : AmSt w wr g g5 A c A' c' d fp fp') (hg : g < w.heap.size) (k : Nat) (x : List Int) (hx : d.2[k]? = some x) (j : Nat) (hj : j < x.length) :
    ∃ gG gx cx, A' = some ⟨gG, 0, none⟩ ∧ wr.cell? ⟨gG, k, none⟩ = some (.slice (some ⟨gx, 0, none⟩) x.length cx) ∧ x.length ≤ cx ∧ cx ≤ 9223372036854775807 ∧ w.heap.size < gx ∧ gx ≠ g5 ∧ gx ≠ gG ∧ gG ≠ g ∧ gG < wr.heap.size ∧
      ∀ wz, TchF [g] wr wz → wz.cell? ⟨gx, j, none⟩ = some (.int .i64 (x.getD j 0)) ∧ wz.frozen? ⟨gx, j, none⟩ = false ∧ ∀ z, AmSt w (wz.setCell ⟨gx, j, none⟩ (.int .i64 z)) g g5 A c A' c' (d.1, d.2.set k (x.set j z)) fp fp' := by
  obtain ⟨gG, gx, cx, e, s1, s2, s3, s4, s5, s6, s7⟩ := h.oc.spot k x hx j hj
  obtain ⟨gA, Ay, cy, f, ea, hm, hcy, _, hly, hf⟩ := h.oc.rowAt k x hx
  have ea := e.symm.trans ea
  simp only [Option.some.injEq, Addr.mk.injEq, and_true] at ea
  subst ea
  rw [s1] at hcy
  simp only [Option.some.injEq, Value.slice.injEq, true_and] at hcy
  have hgx : gx ≠ gG := (hf gx (by rw [hly.own.2, ← hcy.1]; simp)).2
  have hgG : gG ≠ g := by have := (h.bc gG hm).1; omega
  have hlt : gG < wr.heap.size := h.oc.lt gG hm
  refine ⟨gG, gx, cx, e, s1, s2, s3, (h.bc gx s4).1, (h.bc gx s4).2, hgx, hgG, hlt, fun wz hz => ?_⟩
  have h2 := h.curs hg hz
  obtain ⟨gG', gx', cx', e', t1, _, _, t4, t5, t6, t7⟩ := h2.oc.spot k x hx j hj
  subst e
  simp only [Option.some.injEq, Addr.mk.injEq, and_true] at e'
  subst e'
  have e3 : wz.cell? ⟨gG, k, none⟩ = wr.cell? ⟨gG, k, none⟩ := World.cell?_of_block (w := wr) (hz.block gG hlt (by simpa using hgG))
  rw [t1, s1] at e3
  simp only [Option.some.injEq, Value.slice.injEq, Addr.mk.injEq, true_and, and_true] at e3
  obtain ⟨rfl, rfl⟩ := e3
  exact ⟨t5, t6, fun z => h2.setC (t7 z) t4⟩
/-- A new row in the place of one of the second list. -/
theorem AmSt.fresh {wm : World} {k m gC lo : Nat} {zs : List Int} (h : AmSt w wr g g5 A c (some ⟨gC, 0, none⟩) c' d fp fp') (hg : g < w.heap.size) (hk : k < d.2.length) (hx : Ext wr wm) (ho : OwnI 3 wm lo (some ⟨wr.heap.size, 0, none⟩) m m zs) (hlt : wr.heap.size < wm.heap.size) :
    ∃ fp2, AmSt w (wm.setCell ⟨gC, k, none⟩ (.slice (some ⟨wr.heap.size, 0, none⟩) m m)) g g5 A c (some ⟨gC, 0, none⟩) c' (d.1, d.2.set k zs) fp fp2 := by
  have h2 := h.ext hg hx
  obtain ⟨gx, cs, f, hat⟩ := h2.oc.at_ k _ (List.getElem?_eq_getElem hk)
  have ea := hat.addr
  simp only [Option.some.injEq, Addr.mk.injEq, and_true] at ea
  subst ea
  have hz := own_row ho
  have hgl := h.oc.lt
  obtain ⟨fp2, h3, h4⟩ := hat.store wm _ zs _ hz (TchF.refl _ _) (fun i hi => by
    simp at hi
    subst hi
    exact .inr (fun hm => by have := hgl _ hm; omega))
  rw [one_cells wm gC k _ kdL.size rfl] at h3
  have hm := hat.mem
  have hmm := h.bc gC hm
  have hnew : ∀ i ∈ fp2, i ∈ fp' ∨ i = wr.heap.size := fun i hi => by
    rcases h4 i hi with e | e
    · exact .inl e
    · simp at e; exact .inr e
  have s1 := h.b5.lt
  have s2 := h.tch.size
  have s3 := h.h5
  refine ⟨fp2, ⟨h2.b0.far (by simp; omega) _, ?_, h2.og.keep fun i hi => Below.heap_setCell _ _ _ _ (fun (e : i = gC) => h.dj i hi (e ▸ hm)), h3, h.bg, fun i hi => ?_, fun i hi hm2 => ?_, h.h5, h2.tch.step (TchF.setCell wm ⟨gC, k, none⟩ _ (fp := [gC]) (by simp)) (fun i hi => .inr (by simp at hi; omega))⟩⟩
  · have := h2.b5.far (p := ⟨gC, k, none⟩) (Ne.symm hmm.2) (.slice (some ⟨wr.heap.size, 0, none⟩) m m)
    simpa using this
  · rcases hnew i hi with e | e
    · exact h.bc i e
    · omega
  · rcases hnew i hm2 with e | e
    · exact h.dj i hi e
    · have := h.og.lt i hi; omega
/-- No grades any more. -/
theorem AmSt.noG (h : AmSt w wr g g5 A c A' c' d fp fp') : AmSt w (wr.setCell ⟨g5, 0, none⟩ (.slice none 0 0)) g g5 none 0 A' c' ([], d.2) [] fp' where
  b0 := h.b0.far (by have := h.h5; simp; omega) _
  b5 := by have := h.b5.set 0 (.slice none 0 0); simpa using this
  og := LO.none_
  oc := h.oc.keep fun i hi => Below.heap_setCell _ _ _ _ (h.bc i hi).2
  bg := by simp
  bc := h.bc
  dj := by simp
  h5 := h.h5
  tch := h.tch.step (TchF.setCell wr ⟨g5, 0, none⟩ _ (fp := [g5]) (by simp)) fun i hi => .inr (by have := h.h5; simp at hi; omega)
end
end Go.Proofs.YtnokilofcdbjhaaGreatDoor

/- Marks drawn, mostly valid ones. -/
namespace Go.Proofs.YtnokilofcdbjhaaGreatDoor
open Go.RowKit Go.Sort
set_option linter.unusedVariables false

theorem am_end {w wz : World} {g M N n : Nat} {v u0 u1 : Value} {dz : MD} (hg : g < w.heap.size) (h : RdA kM (w.heap.size + 1) wz v dz) (ok : kM.ok dz) (hc : Cur wz g M) (hM : M ≤ N + 20 * n + 200) (ht : TchF [g] w wz) :
    ∃ v' d, Ending.returned v = .returned v' ∧ RdA kM w.heap.size ((wz.setCell ⟨w.heap.size, 0, none⟩ u0).setCell ⟨w.heap.size, 1, none⟩ u1) v' d ∧ kM.ok d ∧ Cur ((wz.setCell ⟨w.heap.size, 0, none⟩ u0).setCell ⟨w.heap.size, 1, none⟩ u1) g (N + 20 * n + 200) ∧ TchF [g] w ((wz.setCell ⟨w.heap.size, 0, none⟩ u0).setCell ⟨w.heap.size, 1, none⟩ u1) := by
  obtain ⟨e1, e2, e3⟩ := ret_two (u0 := u0) (u1 := u1) h (Nat.lt_succ_self _) hc hg ht
  exact ⟨_, dz, rfl, e1, ok, e2.more hM, e3⟩
theorem am_endD {w wz : World} {g M N n : Nat} {v u0 u1 : Value} {dz : MD} (hg : g < w.heap.size) (h : RdA kM (w.heap.size + 1) wz v dz) (ok : kM.ok dz) (hc : Cur wz g M) (hM : M ≤ N + 20 * n + 200) (ht : TchF [g] w wz) :
    ∃ v' d, Ending.returned v = .returned v' ∧ RdA kM w.heap.size ((wz.setCell ⟨w.heap.size, 0, none⟩ u0).setCell ⟨w.heap.size, 1, none⟩ u1).drew v' d ∧ kM.ok d ∧ Cur ((wz.setCell ⟨w.heap.size, 0, none⟩ u0).setCell ⟨w.heap.size, 1, none⟩ u1).drew g (N + 20 * n + 200) ∧ TchF [g] w ((wz.setCell ⟨w.heap.size, 0, none⟩ u0).setCell ⟨w.heap.size, 1, none⟩ u1).drew := by
  obtain ⟨e1, e2, e3⟩ := ret_two (u0 := u0) (u1 := u1) h (Nat.lt_succ_self _) hc hg ht
  exact ⟨_, dz, rfl, e1.ext (Ext.drew _), ok, (e2.more hM).ext (Ext.drew _), e3.trans (TchF.of_ext (Ext.drew _))⟩
theorem rows_set {xs : List (List Int)} {k m : Nat} {y : List Int} (h : ∀ x ∈ xs, x.length ≤ m) (hy : y.length ≤ m) : ∀ x ∈ xs.set k y, x.length ≤ m := fun x hx => by
  rcases List.mem_or_eq_of_mem_set hx with e | e
  · exact h x e
  · rw [e]; exact hy

set_option maxRecDepth 100000 in
set_option maxHeartbeats 4000000 in
theorem cu.anyMarks_m (w : World) (g N n : Nat) (h : Cur w g N) (hN : N ≤ 4611686018410000000) (hn : n ≤ 1000) :
    Calls Tryz.prog 35 #[.pointer (some ⟨g, 0, none⟩), .int .i64 n] w fun e w' => ∃ v d, e = .returned v ∧ RdA kM w.heap.size w' v d ∧ kM.ok d ∧ Cur w' g (N + 20 * n + 200) ∧ TchF [g] w w' := by
  have hg := h.lt
  have C0 := hide (h.ext (Ext.alloc w (.cells #[.slice none 0 0, .slice none 0 0] 25)))
  have B0 : Hid (Blk (w.alloc (.cells #[.slice none 0 0, .slice none 0 0] 25)) w.heap.size #[.slice none 0 0, .slice none 0 0] 25) := Blk.new rfl _ _
  have MK := hide (cu.marks_m (w.alloc (.cells #[.slice none 0 0, .slice none 0 0] 25)) g N n C0.out (by omega) hn)
  clear h
  go_enter Tryz.func35, Tryz.ntmps35
  go_wp2_with fail
  refine MK.out.mono ?_
  rintro e w2 ⟨v, d, J, rfl, hfr, hd1, hd2, J3, J9, r1, r2, c2, k2⟩
  obtain ⟨A, c, A', c', fp, fp', rfl, p1, p2, f1, f2, fd⟩ := kM.open hfr
  have HD1 := hide hd1
  have HD2 := hide hd2
  have R1 := hide r1
  have R2 := hide r2
  have z2 : w.heap.size + 1 ≤ w2.heap.size := by have := k2.size; simpa using this
  have cp1 := p1.cap; have cp2 := p2.cap
  rw [hd1] at cp1; rw [hd2] at cp2
  rw [hd1, hd2]
  have B2 := B0.out.tchF k2 (by simp; omega)
  obtain ⟨WA, hWA⟩ : ∃ WA, Hid (WA = w2.alloc (.cells #[.slice A n c, .slice A' 3 c'] 25)) := ⟨_, rfl⟩
  have ST : Hid (AmSt w WA g w2.heap.size A c A' c' d fp fp') := by
    rw [hWA.out]
    refine ⟨B2.alloc _, by rw [hd1, hd2]; exact Blk.new rfl _ _, p1.ext (Ext.alloc _ _), p2.ext (Ext.alloc _ _), fun i hi => ?_, fun i hi => ?_, fd, by omega, ((TchF.of_ext (Ext.alloc w _)).trans k2).trans (TchF.of_ext (Ext.alloc _ _))⟩
    · have h1 := f1 i hi; simp at h1; omega
    · have h1 := f2 i hi; simp at h1; omega
  have CA : Hid (Cur WA g (N + 20 * n + 100)) := by rw [hWA.out]; exact c2.ext (Ext.alloc _ _)
  obtain ⟨g5, hg5⟩ : ∃ g5, g5 = w2.heap.size := ⟨_, rfl⟩
  rw [← hg5] at ST
  have zA : WA.heap.size = g5 + 1 := by rw [hWA.out, hg5]; simp
  clear hfr hd1 hd2 r1 r2 c2 k2 p1 p2 f1 f2 fd B2 B0 C0 MK
  go_wp2_with fail
  rw [← hWA.out, ← hg5]
  clear hWA hg5
  have l2 : LR kdL WA WA.heap.size A' c' d.2 := ST.out.oc.rd
  refine (s.mkJudges_any A A' n 3 c c' _ d WA l2 (Nat.le_refl _) (by rw [HD2.out]; omega) HD2.out.symm).mono ?_
  rintro e w3 ⟨rfl, x3⟩
  have hJ : judges d = J := by
    have h9 : 0 < d.2.length := by rw [HD2.out]; omega
    have h0 : d.2[0]? = some d.2[0] := List.getElem?_eq_getElem h9
    unfold judges
    rw [List.getD_eq_getElem?_getD, h0]
    exact R2.out _ (List.getElem_mem _)
  rw [hJ]
  have z3 := x3.size
  replace ST := hide (ST.out.ext hg x3)
  replace CA := hide (CA.out.ext x3)
  clear x3 hJ l2
  go_wp2_with fail
  refine (cu.pick_m w3 g _ J CA.out (by omega) (by unfold InR; omega)).mono ?_
  rintro e w4 ⟨jr, rfl, jr0, jr1, -, c4, k4⟩
  have jr2 := jr1 (by omega)
  obtain ⟨j, rfl⟩ : ∃ j : Nat, jr = j := ⟨jr.toNat, by omega⟩
  have hj : j < J := by omega
  have z4 := k4.size
  replace ST := hide (ST.out.curs hg k4)
  replace CA := hide c4
  clear c4 k4 jr0 jr1 jr2 z3 zA
  go_wp2_with fail
  refine (cu.pick_m w4 g _ 30 CA.out (by omega) (by unfold InR; omega)).mono ?_
  rintro e w5 ⟨r, rfl, ra, rb, -, c5, k5⟩
  have rc := rb (by omega)
  replace ST := hide (ST.out.curs hg k5)
  replace CA := hide c5
  have z5 := k5.size
  clear c5 k5 rb z4
  have b5 := ST.out.b5
  rw [HD1.out, HD2.out] at b5
  have q5 := b5.cell
  have f5 := b5.free
  have q0 := ST.out.b0.cell
  have f0 := ST.out.b0.free
  have n5 : g5 ≠ w.heap.size := by have := ST.out.h5; omega
  have B5 := hide b5
  clear b5
  have hfin : ∀ (wz : World) (dz : MD) (u0 u1 : Value) (h : AmSt w wz g g5 A c A' c' dz fp fp') (hc : Cur wz g (N + 20 * n + 100 + 2 + 2 + 6)) (h1 : dz.1.length = n) (h2 : dz.2.length = 3) (h3 : ∀ x ∈ dz.1, x.length = J) (h4 : ∀ x ∈ dz.2, x.length = J),
      ∃ v d, Ending.returned (.agg #[.slice A n c, .slice A' 3 c']) = .returned v ∧ RdA kM w.heap.size ((wz.setCell ⟨w.heap.size, 0, none⟩ u0).setCell ⟨w.heap.size, 1, none⟩ u1) v d ∧ kM.ok d ∧ Cur ((wz.setCell ⟨w.heap.size, 0, none⟩ u0).setCell ⟨w.heap.size, 1, none⟩ u1) g (N + 20 * n + 200) ∧ TchF [g] w ((wz.setCell ⟨w.heap.size, 0, none⟩ u0).setCell ⟨w.heap.size, 1, none⟩ u1) := by
    intro wz dz u0 u1 h hc h1 h2 h3 h4
    have hr := kM.rdA h.fr
    rw [h1, h2] at hr
    obtain ⟨e1, e2, e3⟩ := ret_two (u0 := u0) (u1 := u1) hr (Nat.lt_succ_self _) hc hg h.tch
    exact ⟨_, dz, rfl, e1, kM.ok_small hn (by omega) (by omega) (fun x hx => by have := h3 x hx; omega) (fun x hx => by have := h4 x hx; omega), e2.more (by omega), e3⟩
  have FIN := hide hfin
  have L1 : Hid (∀ x ∈ d.1, x.length ≤ 10) := fun x hx => by have := R1.out x hx; omega
  have L2 : Hid (∀ x ∈ d.2, x.length ≤ 10) := fun x hx => by have := R2.out x hx; omega
  clear hfin
  by_cases r0 : r = 0
  · subst r0
    by_cases hn0 : n = 0
    · subst hn0
      have hz : ¬ (0 : Int) < ((0 : Nat) : Int) := by omega
      go_wp2
      refine bodyPost_ret (v := .agg #[.slice A 0 c, .slice A' 3 c']) (by simp [results, Tryz.results35, go_sem, q0]) rfl ?_
      exact FIN.out _ d _ _ ST.out (CA.out.more (by omega)) HD1.out HD2.out R1.out R2.out
    have hz : (0 : Int) < (n : Int) := by omega
    obtain ⟨gL, hgA, hgl, hgg⟩ : ∃ gL, A = some ⟨gL, 0, none⟩ ∧ gL < w5.heap.size ∧ gL ≠ g := by
      obtain ⟨gA, Ax, cx, f, e, hm, _⟩ := ST.out.og.rowAt 0 _ (List.getElem?_eq_getElem (by rw [HD1.out]; omega))
      exact ⟨gA, e, ST.out.og.lt gA hm, by have := (ST.out.bg gA hm).1; omega⟩
    subst hgA
    obtain ⟨RC, hRC⟩ : ∃ RC : Nat → Option Value, Hid (∀ k, w5.cell? ⟨gL, k, none⟩ = RC k) := ⟨_, fun _ => rfl⟩
    have hP : ∀ wq, Ext w5 wq → Calls Tryz.prog 34 #[.pointer (some ⟨g, 0, none⟩), .int .i64 n] wq fun e w' => ∃ (k : Nat) (x : List Int) (gx cx : Nat), e = .returned (.int .i64 k) ∧ k < n ∧ RC k = some (.slice (some ⟨gx, 0, none⟩) J cx) ∧ J ≤ cx ∧ cx ≤ 9223372036854775807 ∧ w.heap.size < gx ∧ gx ≠ g5 ∧ gx ≠ gL ∧ x.length = J ∧ Cur w' g (N + 20 * n + 100 + 2 + 2 + 2) ∧ TchF [g] wq w' ∧
        ∀ wz, TchF [g] w5 wz → ∃ y, wz.cell? ⟨gx, j, none⟩ = some (.int .i64 y) ∧ wz.frozen? ⟨gx, j, none⟩ = false ∧ ∀ z, AmSt w (wz.setCell ⟨gx, j, none⟩ (.int .i64 z)) g g5 (some ⟨gL, 0, none⟩) c A' c' (d.1.set k (x.set j z), d.2) fp fp' := by
      intro wq hq
      refine (cu.pick_m wq g _ n (CA.out.ext hq) (by omega) (by unfold InR; omega)).mono ?_
      rintro e w6 ⟨kr, rfl, k0, k1, -, c6, k6⟩
      have k2 := k1 (by omega)
      obtain ⟨k, rfl⟩ : ∃ k : Nat, kr = k := ⟨kr.toNat, by omega⟩
      have hk : k < n := by omega
      obtain ⟨x, hx⟩ : ∃ x, d.1[k]? = some x := ⟨_, List.getElem?_eq_getElem (by rw [HD1.out]; omega)⟩
      have hxl : x.length = J := R1.out x (List.mem_of_getElem? hx)
      obtain ⟨gA, gx, cx, eA, s1, s2, s3, s4, s5, s55, _, _, s6⟩ := ST.out.spotG hg k x hx j (by omega)
      simp only [Option.some.injEq, Addr.mk.injEq, and_true] at eA
      subst eA
      rw [hxl] at s1 s2
      exact ⟨k, x, gx, cx, rfl, hk, (hRC.out k).symm.trans s1, s2, s3, s4, s5, s55, hxl, c6, k6, fun wz hz => ⟨_, (s6 wz hz).1, (s6 wz hz).2.1, (s6 wz hz).2.2⟩⟩
    have P6 := hide hP
    have SF : Hid (∀ wz, TchF [g] w5 wz → (∀ i, wz.cell? ⟨g5, i, none⟩ = #[Value.slice (some ⟨gL, 0, none⟩) n c, .slice A' 3 c'][i]?) ∧ ∀ k, wz.cell? ⟨gL, k, none⟩ = RC k) := fun wz hz =>
      ⟨(B5.out.tchF hz (by have := ST.out.h5; simp; omega)).cell, fun k => (World.cell?_of_block (w := w5) (hz.block gL hgl (by simpa using hgg))).trans (hRC.out k)⟩
    have SSF : Hid (∀ wz gx v, TchF [g] w5 wz → gx ≠ g5 → gx ≠ gL → (∀ i, (wz.setCell ⟨gx, j, none⟩ v).cell? ⟨g5, i, none⟩ = #[Value.slice (some ⟨gL, 0, none⟩) n c, .slice A' 3 c'][i]?) ∧ ∀ k, (wz.setCell ⟨gx, j, none⟩ v).cell? ⟨gL, k, none⟩ = RC k) := fun wz gx v hz h1 h2 =>
      ⟨fun i => (cellS (by simp)).trans ((SF.out wz hz).1 i), fun k => (cellS (by simp)).trans ((SF.out wz hz).2 k)⟩
    have X1 : Hid (TchF [g] w5 w5.drew) := TchF.of_ext (Ext.drew _)
    have X2 : Hid (TchF [g] w5 (w5.alloc (.cells #[.int .i64 (-6), .int .i64 (-5), .int .i64 5, .int .i64 6] 3)).drew) := TchF.of_ext ((Ext.alloc _ _).trans (Ext.drew _))
    have X2e : Hid (Ext w5 (w5.alloc (.cells #[.int .i64 (-6), .int .i64 (-5), .int .i64 5, .int .i64 6] 3)).drew) := (Ext.alloc _ _).trans (Ext.drew _)
    have BL : Hid (Blk (w5.alloc (.cells #[.int .i64 (-6), .int .i64 (-5), .int .i64 5, .int .i64 6] 3)).drew w5.heap.size #[.int .i64 (-6), .int .i64 (-5), .int .i64 5, .int .i64 6] 3) := (Blk.new (w := w5) rfl #[.int .i64 (-6), .int .i64 (-5), .int .i64 5, .int .i64 6] 3).ext (Ext.drew _)
    have NG : Hid (g ≠ w5.heap.size) := by have := CA.out.lt; show g ≠ _; omega
    have hcI : ((0 : Int) ≤ (j : Int)) ∧ (j : Int) < J := by omega
    clear hP q5
    go_wp2
    go_region_held3 (fun wz => (∀ i, wz.cell? ⟨g5, i, none⟩ = #[Value.slice (some ⟨gL, 0, none⟩) n c, .slice A' 3 c'][i]?) ∧ ∀ k, wz.cell? ⟨gL, k, none⟩ = RC k)
      (first | with_reducible exact SSF.out _ _ _ K9.out n8 n9 | with_reducible exact SF.out _ K9.out | with_reducible exact SF.out _ K8.out | with_reducible exact SF.out _ K6.out | with_reducible exact SF.out _ X1.out | with_reducible exact SF.out _ X2.out | fail)
      (first
        | (go_at_call 37; refine MA.out.mono ?_; rintro e w7 ⟨z, rfl, hz, c7, k7⟩; have K9 := hide (K8.out.trans k7); have C9 := hide c7; obtain ⟨y, s1, s2, s3⟩ := HX6.out w7 K9.out; have S3 := hide s3; clear c7 k7 s3 hz)
        | (go_at_call 34; refine (P6.out _ X2e.out).mono ?_; rintro e w6 ⟨k, x, gx, cx, rfl, hk, hrc, h1, h2, n7, n8, n9, hxl, c6, k6, hx6⟩; have hki : (k : Int) < n := (by omega); have HXL := hide hxl; have HX6 := hide hx6; have K6 := hide (X2.out.trans k6); have K8 := hide K6.out; have MA := hide (cu.among_m w6 g _ w5.heap.size 4 [-6, -5, 5, 6] c6 (by omega) (BL.out.tchF k6 (by simpa using Ne.symm NG.out)) (Ne.symm NG.out) (by decide) (by decide)); clear hxl c6 k6 hx6)
        | (go_at_call 34; refine (P6.out _ (Ext.drew w5)).mono ?_; rintro e w6 ⟨k, x, gx, cx, rfl, hk, hrc, h1, h2, n7, n8, n9, hxl, c6, k6, hx6⟩; have hki : (k : Int) < n := (by omega); have HXL := hide hxl; have HX6 := hide hx6; have K6 := hide (X1.out.trans k6); have K8 := hide (K6.out.trans (TchF.of_ext (Ext.alloc w6 (.cells #[.int .i64 (-6), .int .i64 (-5), .int .i64 5, .int .i64 6] 3)))); have MA := hide (cu.among_m (w6.alloc (.cells #[.int .i64 (-6), .int .i64 (-5), .int .i64 5, .int .i64 6] 3)) g _ w6.heap.size 4 [-6, -5, 5, 6] (c6.ext (Ext.alloc _ _)) (by omega) (Blk.new rfl _ _) (by have := c6.lt; omega) (by decide) (by decide)); clear hxl c6 k6 hx6)
        | fail)
    all_goals
      have q5 := (SSF.out w7 gx (.int .i64 z) K9.out n8 n9).1
      have RS : ∀ y ∈ d.1.set k (x.set j z), y.length = J := fun y hy => by
        rcases List.mem_or_eq_of_mem_set hy with e | e
        · exact R1.out y e
        · rw [e, List.length_set]; exact HXL.out
      clear q0 f0 f5
      have q0 := (S3.out z).b0.cell
      have f0 := (S3.out z).b0.free
      have RSh := hide RS
      clear RS
      go_wp2
      refine bodyPost_ret (v := .agg #[.slice (some ⟨gL, 0, none⟩) n c, .slice A' 3 c']) (by simp [results, Tryz.results35, go_sem, q0]) rfl ?_
      exact FIN.out _ _ _ _ (S3.out z) ((C9.out.tchF (TchF.put w7 ⟨gx, j, none⟩ (.int .i64 z) (fp := [gx]) (by simp)) (fun i hi => by simp at hi; omega)).more (by omega)) (by rw [List.length_set]; exact HD1.out) HD2.out RSh.out R2.out
  have b0 : (r == 0) = false := by simpa using r0
  by_cases r1 : r = 1
  · subst r1
    obtain ⟨gL, hgA, hgl, hgg⟩ : ∃ gL, A' = some ⟨gL, 0, none⟩ ∧ gL < w5.heap.size ∧ gL ≠ g := by
      obtain ⟨gA, Ax, cx, f, e, hm, _⟩ := ST.out.oc.rowAt 0 _ (List.getElem?_eq_getElem (by rw [HD2.out]; omega))
      exact ⟨gA, e, ST.out.oc.lt gA hm, by have := (ST.out.bc gA hm).1; omega⟩
    subst hgA
    obtain ⟨RC, hRC⟩ : ∃ RC : Nat → Option Value, Hid (∀ k, w5.cell? ⟨gL, k, none⟩ = RC k) := ⟨_, fun _ => rfl⟩
    have hP : ∀ wq, Ext w5 wq → Calls Tryz.prog 34 #[.pointer (some ⟨g, 0, none⟩), .int .i64 3] wq fun e w' => ∃ (k : Nat) (x : List Int) (gx cx : Nat), e = .returned (.int .i64 k) ∧ k < 3 ∧ RC k = some (.slice (some ⟨gx, 0, none⟩) J cx) ∧ J ≤ cx ∧ cx ≤ 9223372036854775807 ∧ w.heap.size < gx ∧ gx ≠ g5 ∧ gx ≠ gL ∧ x.length = J ∧ Cur w' g (N + 20 * n + 100 + 2 + 2 + 2) ∧ TchF [g] wq w' ∧
        ∀ wz, TchF [g] w5 wz → ∃ y, wz.cell? ⟨gx, j, none⟩ = some (.int .i64 y) ∧ wz.frozen? ⟨gx, j, none⟩ = false ∧ ∀ z, AmSt w (wz.setCell ⟨gx, j, none⟩ (.int .i64 z)) g g5 A c (some ⟨gL, 0, none⟩) c' (d.1, d.2.set k (x.set j z)) fp fp' := by
      intro wq hq
      refine (cu.pick_m wq g _ 3 (CA.out.ext hq) (by omega) (by unfold InR; omega)).mono ?_
      rintro e w6 ⟨kr, rfl, k0, k1, -, c6, k6⟩
      have k2 := k1 (by omega)
      obtain ⟨k, rfl⟩ : ∃ k : Nat, kr = k := ⟨kr.toNat, by omega⟩
      have hk : k < 3 := by omega
      obtain ⟨x, hx⟩ : ∃ x, d.2[k]? = some x := ⟨_, List.getElem?_eq_getElem (by rw [HD2.out]; omega)⟩
      have hxl : x.length = J := R2.out x (List.mem_of_getElem? hx)
      obtain ⟨gA, gx, cx, eA, s1, s2, s3, s4, s5, s55, _, _, s6⟩ := ST.out.spotC hg k x hx j (by omega)
      simp only [Option.some.injEq, Addr.mk.injEq, and_true] at eA
      subst eA
      rw [hxl] at s1 s2
      exact ⟨k, x, gx, cx, rfl, hk, (hRC.out k).symm.trans s1, s2, s3, s4, s5, s55, hxl, c6, k6, fun wz hz => ⟨_, (s6 wz hz).1, (s6 wz hz).2.1, (s6 wz hz).2.2⟩⟩
    have P6 := hide hP
    have SF : Hid (∀ wz, TchF [g] w5 wz → (∀ i, wz.cell? ⟨g5, i, none⟩ = #[Value.slice A n c, .slice (some ⟨gL, 0, none⟩) 3 c'][i]?) ∧ ∀ k, wz.cell? ⟨gL, k, none⟩ = RC k) := fun wz hz =>
      ⟨(B5.out.tchF hz (by have := ST.out.h5; simp; omega)).cell, fun k => (World.cell?_of_block (w := w5) (hz.block gL hgl (by simpa using hgg))).trans (hRC.out k)⟩
    have SSF : Hid (∀ wz gx v, TchF [g] w5 wz → gx ≠ g5 → gx ≠ gL → (∀ i, (wz.setCell ⟨gx, j, none⟩ v).cell? ⟨g5, i, none⟩ = #[Value.slice A n c, .slice (some ⟨gL, 0, none⟩) 3 c'][i]?) ∧ ∀ k, (wz.setCell ⟨gx, j, none⟩ v).cell? ⟨gL, k, none⟩ = RC k) := fun wz gx v hz h1 h2 =>
      ⟨fun i => (cellS (by simp)).trans ((SF.out wz hz).1 i), fun k => (cellS (by simp)).trans ((SF.out wz hz).2 k)⟩
    have X1 : Hid (TchF [g] w5 w5.drew) := TchF.of_ext (Ext.drew _)
    have X2 : Hid (TchF [g] w5 (w5.alloc (.cells #[.int .i64 (-25), .int .i64 0, .int .i64 10, .int .i64 1000, .int .i64 1025] 3)).drew) := TchF.of_ext ((Ext.alloc _ _).trans (Ext.drew _))
    have X2e : Hid (Ext w5 (w5.alloc (.cells #[.int .i64 (-25), .int .i64 0, .int .i64 10, .int .i64 1000, .int .i64 1025] 3)).drew) := (Ext.alloc _ _).trans (Ext.drew _)
    have BL : Hid (Blk (w5.alloc (.cells #[.int .i64 (-25), .int .i64 0, .int .i64 10, .int .i64 1000, .int .i64 1025] 3)).drew w5.heap.size #[.int .i64 (-25), .int .i64 0, .int .i64 10, .int .i64 1000, .int .i64 1025] 3) := (Blk.new (w := w5) rfl #[.int .i64 (-25), .int .i64 0, .int .i64 10, .int .i64 1000, .int .i64 1025] 3).ext (Ext.drew _)
    have NG : Hid (g ≠ w5.heap.size) := by have := CA.out.lt; show g ≠ _; omega
    have hcI : ((0 : Int) ≤ (j : Int)) ∧ (j : Int) < J := by omega
    clear hP q5
    go_wp2
    go_region_held3 (fun wz => (∀ i, wz.cell? ⟨g5, i, none⟩ = #[Value.slice A n c, .slice (some ⟨gL, 0, none⟩) 3 c'][i]?) ∧ ∀ k, wz.cell? ⟨gL, k, none⟩ = RC k)
      (first | with_reducible exact SSF.out _ _ _ K9.out n8 n9 | with_reducible exact SF.out _ K9.out | with_reducible exact SF.out _ K8.out | with_reducible exact SF.out _ K6.out | with_reducible exact SF.out _ X1.out | with_reducible exact SF.out _ X2.out | fail)
      (first
        | (go_at_call 37; refine MA.out.mono ?_; rintro e w7 ⟨z, rfl, hz, c7, k7⟩; have K9 := hide (K8.out.trans k7); have C9 := hide c7; obtain ⟨y, s1, s2, s3⟩ := HX6.out w7 K9.out; have S3 := hide s3; clear c7 k7 s3 hz)
        | (go_at_call 34; refine (P6.out _ X2e.out).mono ?_; rintro e w6 ⟨k, x, gx, cx, rfl, hk, hrc, h1, h2, n7, n8, n9, hxl, c6, k6, hx6⟩; have hki : (k : Int) < 3 := (by omega); have HXL := hide hxl; have HX6 := hide hx6; have K6 := hide (X2.out.trans k6); have K8 := hide K6.out; have MA := hide (cu.among_m w6 g _ w5.heap.size 5 [-25, 0, 10, 1000, 1025] c6 (by omega) (BL.out.tchF k6 (by simpa using Ne.symm NG.out)) (Ne.symm NG.out) (by decide) (by decide)); clear hxl c6 k6 hx6)
        | (go_at_call 34; refine (P6.out _ (Ext.drew w5)).mono ?_; rintro e w6 ⟨k, x, gx, cx, rfl, hk, hrc, h1, h2, n7, n8, n9, hxl, c6, k6, hx6⟩; have hki : (k : Int) < 3 := (by omega); have HXL := hide hxl; have HX6 := hide hx6; have K6 := hide (X1.out.trans k6); have K8 := hide (K6.out.trans (TchF.of_ext (Ext.alloc w6 (.cells #[.int .i64 (-25), .int .i64 0, .int .i64 10, .int .i64 1000, .int .i64 1025] 3)))); have MA := hide (cu.among_m (w6.alloc (.cells #[.int .i64 (-25), .int .i64 0, .int .i64 10, .int .i64 1000, .int .i64 1025] 3)) g _ w6.heap.size 5 [-25, 0, 10, 1000, 1025] (c6.ext (Ext.alloc _ _)) (by omega) (Blk.new rfl _ _) (by have := c6.lt; omega) (by decide) (by decide)); clear hxl c6 k6 hx6)
        | fail)
    all_goals
      have q5 := (SSF.out w7 gx (.int .i64 z) K9.out n8 n9).1
      have RS : ∀ y ∈ d.2.set k (x.set j z), y.length = J := fun y hy => by
        rcases List.mem_or_eq_of_mem_set hy with e | e
        · exact R2.out y e
        · rw [e, List.length_set]; exact HXL.out
      clear q0 f0 f5
      have q0 := (S3.out z).b0.cell
      have f0 := (S3.out z).b0.free
      have RSh := hide RS
      clear RS
      go_wp2
      refine bodyPost_ret (v := .agg #[.slice A n c, .slice (some ⟨gL, 0, none⟩) 3 c']) (by simp [results, Tryz.results35, go_sem, q0]) rfl ?_
      exact FIN.out _ _ _ _ (S3.out z) ((C9.out.tchF (TchF.put w7 ⟨gx, j, none⟩ (.int .i64 z) (fp := [gx]) (by simp)) (fun i hi => by simp at hi; omega)).more (by omega)) HD1.out (by rw [List.length_set]; exact HD2.out) R1.out RSh.out
  have b1 : (r == 1) = false := by simpa using r1
  by_cases r2 : r = 2
  · subst r2
    by_cases hn0 : n = 0
    · subst hn0
      have hz : ¬ (0 : Int) < ((0 : Nat) : Int) := by omega
      go_wp2
      refine bodyPost_ret (v := .agg #[.slice A 0 c, .slice A' 3 c']) (by simp [results, Tryz.results35, go_sem, q0]) rfl ?_
      exact FIN.out _ d _ _ ST.out (CA.out.more (by omega)) HD1.out HD2.out R1.out R2.out
    · have hz : (0 : Int) < (n : Int) := by omega
      go_wp2_with fail
      refine (cu.pick_m w5 g _ n CA.out (by omega) (by unfold InR; omega)).mono ?_
      rintro e w6 ⟨kr, rfl, k0, k1, -, c6, k6⟩
      have k2 := k1 (by omega)
      obtain ⟨k, rfl⟩ : ∃ k : Nat, kr = k := ⟨kr.toNat, by omega⟩
      have hk : k < n := by omega
      replace ST := hide (ST.out.curs hg k6)
      replace CA := hide c6
      replace B5 : Hid (Blk w6 g5 #[.slice A n c, .slice A' 3 c'] 25) := by have := ST.out.b5; rw [HD1.out, HD2.out] at this; exact this
      clear c6 k6 k0 k1 q5 f5 q0 f0 k2
      obtain ⟨x, hx⟩ : ∃ x, d.1[k]? = some x := ⟨_, List.getElem?_eq_getElem (by rw [HD1.out]; omega)⟩
      have hxl : x.length = J := R1.out x (List.mem_of_getElem? hx)
      have X1 : Hid (Ext w6 (w6.alloc (.cells #[.int .i64 0] 3)).drew) := (Ext.alloc _ _).trans (Ext.drew _)
      obtain ⟨gG, Ax, cx, rfl, gm, gc, gf, go, ga, _⟩ := ST.out.og.grow k x hx
      have S2 := hide (ST.out.ext hg X1.out)
      obtain ⟨gG', Ax', cx', e1, _, gc', gf', go', _, gr⟩ := S2.out.og.grow k x hx
      simp only [Option.some.injEq, Addr.mk.injEq, and_true] at e1
      subst e1
      have zl := ST.out.og.lt gG gm
      have e2 : some (Value.slice Ax x.length cx) = some (.slice Ax' x.length cx') := gc.symm.trans ((cellA (w := w6) (by simpa using zl)).symm.trans gc')
      simp only [Option.some.injEq, Value.slice.injEq, true_and] at e2
      obtain ⟨rfl, rfl⟩ := e2
      rw [hxl] at gc go go'
      have HXL := hide hxl
      have HX := hide hx
      have GO := hide go'
      have GR := hide gr
      have q1 := go.capn; have q2 := go.capm
      have q5 := B5.out.cell
      have q5a := (B5.out.alloc (.cells #[.int .i64 0] 3)).cell
      have gca : (w6.alloc (.cells #[.int .i64 0] 3)).cell? ⟨gG, k, none⟩ = some (.slice Ax J cx) := by rw [cellA (by simpa using zl)]; exact gc
      have n1 := (ST.out.bg gG gm).1
      have n2 := (ST.out.bg gG gm).2
      have n3 : gG ≠ w.heap.size := by omega
      have b1 : (J + 1) * 8 ≤ 140737488355328 := by omega
      have b2 : J + 1 ≤ 4611686018427387904 := by omega
      have hki : (k : Int) < n := by omega
      have B51 : Hid (Blk (w6.alloc (.cells #[.int .i64 0] 3)).drew g5 #[.slice (some ⟨gG, 0, none⟩) n c, .slice A' 3 c'] 25) := B5.out.ext X1.out
      have N5 : Hid (g5 ∉ fp ∧ w.heap.size ∉ fp) := ⟨fun hm => (ST.out.bg _ hm).2 rfl, fun hm => by have := (ST.out.bg _ hm).1; omega⟩
      clear go go' gr gc' gf' hx hxl ga
      go_wp2
      go_region_law ((refine step_append_sl (by rfl) (.tmp 62) (.tmp 63) (by rfl) elem_int (by rfl) (by rfl) (lo := 0) GO.out (Sl.one w6 (.int .i64 0) 3).drew (one_int 0) b1 b2 (Nat.zero_le _) ?_; intro A3 c3 w3 hap; have h9 := GR.out w3 A3 _ c3 (x ++ [0]) (by simpa using hap); rw [HXL.out] at h9; have c9 := h9.1; have f9 := h9.2.1; have H9 := hide h9; have c7 := (B51.out.tchF h9.2.2.1 N5.out.1).cell; have c8 := ((S2.out.b0).tchF h9.2.2.1 N5.out.2).cell; have f8 := ((S2.out.b0).tchF h9.2.2.1 N5.out.2).free; clear h9 hap))
      all_goals
        go_wp2
        refine bodyPost_ret (v := .agg #[.slice (some ⟨gG, 0, none⟩) n c, .slice A' 3 c']) (by simp [results, Tryz.results35, go_sem, c8]) rfl ?_
        obtain ⟨_, _, ht, fq', hl, hs⟩ := H9.out
        have t2 := (ht.trans (TchF.put w3 ⟨gG, k, none⟩ (.slice A3 (J + 1) c3) (fp := fp) gm))
        have oc2 := (S2.out.oc.keep (fun i hi => ht.block i (S2.out.oc.lt i hi) (fun hm => S2.out.dj i hm hi))).keep (fun i hi => Below.heap_setCell w3 ⟨gG, k, none⟩ (.slice A3 (J + 1) c3) i (fun (e : i = gG) => S2.out.dj gG gm (e ▸ hi)))
        have s2 := X1.out.size
        have s3 := ST.out.tch.size
        have rA := kM.rdA (kM.mk (lo := w.heap.size + 1) (n := n) (n' := 3) (d := (d.1.set k (x ++ [0]), d.2)) hl oc2 (by simp [HD1.out]) HD2.out.symm (fun i hi => ⟨by
          rcases hs i hi with e | e
          · exact (ST.out.bg i e).1
          · omega, hl.lt i hi⟩) (fun i hi => ⟨(ST.out.bc i hi).1, oc2.lt i hi⟩) (fun i hi hm => by
          rcases hs i hi with e | e
          · exact ST.out.dj i e hm
          · have := S2.out.oc.lt i hm; omega))
        have hp : ∀ i ∈ fp, w.heap.size ≤ i := fun i hi => by have := (ST.out.bg i hi).1; omega
        exact am_end hg rA (kM.ok_small hn (by rw [List.length_set, HD1.out]; omega) (by rw [HD2.out]; omega) (rows_set L1.out (by simp [HXL.out]; omega)) L2.out) ((CA.out.ext X1.out).tchF t2 (fun i hi => by have := hp i hi; omega)) (by omega) (S2.out.tch.step t2 (fun i hi => .inr (hp i hi)))
  have b2 : (r == 2) = false := by simpa using r2
  by_cases r3 : r = 3
  · subst r3
    obtain ⟨x, hx⟩ : ∃ x, d.2[0]? = some x := ⟨_, List.getElem?_eq_getElem (by rw [HD2.out]; omega)⟩
    have hxl : x.length = J := R2.out x (List.mem_of_getElem? hx)
    obtain ⟨gC, Ax, cx, vs, rfl, hm, hc, hcx1, hcx2, hv, hrd⟩ := ST.out.share3 x hx
    rw [hxl] at hc hcx1 hrd
    rw [HD1.out, HD2.out] at hrd
    rw [HD2.out] at hv
    have HRD := hide hrd
    have HX := hide hx
    have HXL := hide hxl
    have HV := hide (Own.drew (hv.alloc (.cells #[.slice Ax J cx] 31)))
    have n1 := (ST.out.bc gC hm).1
    have n2 := (ST.out.bc gC hm).2
    have n3 : gC ≠ w.heap.size := by omega
    have zl := ST.out.oc.lt gC hm
    have zm := ST.out.b0.lt
    have z5' := ST.out.b5.lt
    have cA1 := (B5.out.alloc (.cells #[.slice Ax J cx] 31)).cell
    have cA2 : (w5.alloc (.cells #[.slice Ax J cx] 31)).cell? ⟨gC, 0, none⟩ = some (.slice Ax J cx) := by rw [cellA (by simpa using zl)]; exact hc
    have U1 : Hid (∀ u ∈ [Value.slice Ax J cx], u.oneCell' = true) := by show ∀ u ∈ _, _; simp [Value.oneCell']
    have X1 : Hid (Ext w5 (w5.alloc (.cells #[.slice Ax J cx] 31)).drew) := (Ext.alloc _ _).trans (Ext.drew _)
    have B51 : Hid (Blk (w5.alloc (.cells #[.slice Ax J cx] 31)).drew g5 #[.slice A n c, .slice (some ⟨gC, 0, none⟩) 3 c'] 25) := B5.out.ext X1.out
    have b1 : (3 + 1) * 24 ≤ 140737488355328 := by omega
    have b2 : 3 + 1 ≤ 4611686018427387904 := by omega
    clear hrd hx hxl hv
    go_wp2
    go_region_law ((refine step_append_sl (by rfl) (.tmp 69) (.tmp 74) (by rfl) elem_row (by rfl) (by rfl) (lo := 0) HV.out (Sl.one w5 (.slice Ax J cx) 31).drew U1.out b1 b2 (Nat.zero_le _) ?_; intro A3 c3 w3 hap; have c9 := (B51.out.apd hap (fun p hp => by cases hp; exact n2)).cell; have f9 := (B51.out.apd hap (fun p hp => by cases hp; exact n2)).free; have HAP := hide hap; have c8 := ((ST.out.b0.ext X1.out).apd hap (fun p hp => by cases hp; exact n3)).cell; have f8 := ((ST.out.b0.ext X1.out).apd hap (fun p hp => by cases hp; exact n3)).free; clear hap))
    all_goals
      go_wp2
      refine bodyPost_ret (v := .agg #[.slice A n c, .slice A3 4 c3]) (by simp [results, Tryz.results35, go_sem, c8]) rfl ?_
      have t1 := (TchF.of_ext X1.out (fp := [gC])).trans (TchF.of_grown (fp := [gC]) HAP.out.grew (fun p hp => by cases hp; simp))
      have t2 := (t1.more (fp' := [gC, g5]) (by simp)).trans (TchF.put w3 ⟨g5, 1, none⟩ (.slice A3 4 c3) (fp := [gC, g5]) (by simp))
      have h5 := ST.out.h5
      exact am_end hg (HRD.out _ w3 A3 c3 _ X1.out HAP.out) (kM.ok_small hn (by rw [HD1.out]; omega) (by simp [HD2.out]) L1.out (fun y hy => by rcases List.mem_append.1 hy with e | e; exact L2.out y e; simp at e; rw [e, HXL.out]; omega)) (CA.out.tchF t2 (fun i hi => by simp at hi; omega)) (by omega) (ST.out.tch.step t2 (fun i hi => .inr (by simp at hi; omega)))
  have b3 : (r == 3) = false := by simpa using r3
  by_cases r4 : r = 4
  · subst r4
    obtain ⟨x, hx⟩ : ∃ x, d.2[1]? = some x := ⟨_, List.getElem?_eq_getElem (by rw [HD2.out]; omega)⟩
    have hxl : x.length = J := R2.out x (List.mem_of_getElem? hx)
    obtain ⟨gC, gx, cx, rfl, hm, hc, hfz, hcx1, hcx2, hrd⟩ := ST.out.share4 1 x hx (by omega)
    rw [hxl] at hc hcx1 hrd
    rw [HD1.out, HD2.out] at hrd
    have HRD := hide hrd
    have HX := hide hx
    have HXL := hide hxl
    have n1 := (ST.out.bc gC hm).1
    have n2 := (ST.out.bc gC hm).2
    clear hrd hx hxl
    have n3 : gC ≠ w.heap.size := by omega
    go_wp2
    go_region
    all_goals
      go_wp2
      refine bodyPost_ret (v := .agg #[.slice A n c, .slice (some ⟨gC, 0, none⟩) 3 c']) (by simp [results, Tryz.results35, go_sem, q0]) rfl ?_
      exact am_endD hg (HRD.out w5 (Ext.refl _)) (kM.ok_small hn (by rw [HD1.out]; omega) (by rw [List.length_set, HD2.out]; omega) L1.out (rows_set L2.out (by have := HXL.out; simp; omega))) (CA.out.tchF (TchF.put w5 ⟨gC, 1, none⟩ _ (fp := [gC]) (by simp)) (fun i hi => by simp at hi; omega)) (by omega) (ST.out.tch.step (TchF.put w5 ⟨gC, 1, none⟩ _ (fp := [gC]) (by simp)) (fun i hi => .inr (by simp at hi; omega)))
  have b4 : (r == 4) = false := by simpa using r4
  by_cases r5 : r = 5
  · subst r5
    have h0 := ST.out.b0
    have BL := (Blk.new (w := w5) rfl #[.int .i64 2, .int .i64 9, .int .i64 10] 3)
    have AMG := hide (cu.among_m (w5.alloc (.cells #[.int .i64 2, .int .i64 9, .int .i64 10] 3)) g _ w5.heap.size 3 [2, 9, 10] (CA.out.ext (Ext.alloc _ _)) (by omega) BL (by have := CA.out.lt; omega) (by decide) (by decide))
    clear BL h0
    go_wp2_with fail
    refine AMG.out.mono ?_
    rintro e w6 ⟨mr, rfl, hmr, c6, k6⟩
    have hm : 2 ≤ mr ∧ mr ≤ 10 := by
      simp only [List.mem_cons, List.not_mem_nil, or_false] at hmr
      omega
    obtain ⟨m, rfl⟩ : ∃ m : Nat, mr = m := ⟨mr.toNat, by omega⟩
    have S6 := hide ((ST.out.ext hg (Ext.alloc _ _)).curs hg k6)
    have C6 := hide c6
    obtain ⟨gL, hgA, hgl, hgh⟩ : ∃ gL, A' = some ⟨gL, 0, none⟩ ∧ gL < w6.heap.size ∧ w.heap.size < gL := by
      obtain ⟨gA, Ax, cx, f, e, hm, _⟩ := S6.out.oc.rowAt 0 _ (List.getElem?_eq_getElem (by rw [HD2.out]; omega))
      exact ⟨gA, e, S6.out.oc.lt gA hm, (S6.out.bc gA hm).1⟩
    subst hgA
    have S7 := hide S6.out.noG
    have C7 := hide (C6.out.tchF (TchF.put w6 ⟨g5, 0, none⟩ (.slice none 0 0) (fp := [g5]) (by simp)) (fun i hi => by have := S6.out.h5; simp at hi; omega))
    have MKR := hide (fun w => run_make_row' (P := Tryz.prog) 31 3 (.int .i64 0) 8 Tryz.underlying31 (by kernel_rfl) rfl .i64 .i64 m (by omega) (by omega) w)
    have b6 := S6.out.b5
    rw [HD1.out, HD2.out] at b6
    have q5 := b6.cell
    have f5 := b6.free
    clear c6 k6 hmr q0 f0 b6 AMG
    go_wp2
    go_loopw [96] (fun i wr => ∃ (k : Nat) (xs : List (List Int)) (fq : List Nat), k ≤ 3 ∧ i = .int .i64 k ∧ xs.length = 3 ∧ (∀ x ∈ xs, x.length ≤ 10) ∧ AmSt w wr g g5 none 0 (some ⟨gL, 0, none⟩) c' ([], xs) [] fq ∧ Cur wr g (N + 20 * n + 100 + 2 + 2 + 2 + 2)) (fun i _ => 3 - (intOf i).toNat)
    case atStart => exact ⟨0, d.2, fp', by omega, rfl, HD2.out, L2.out, S7.out, C7.out.more (by omega)⟩
    case round =>
      obtain ⟨k, xs, fq, hk, rfl, hx3, hx10, st, cur⟩ := hrel
      have SR := hide st
      have CR := hide cur
      have X3 := hide hx3
      have X10 := hide hx10
      have b7 := st.b5
      rw [hx3] at b7
      have B7 : Hid (Blk wr g5 #[.slice none 0 0, .slice (some ⟨gL, 0, none⟩) 3 c'] 25) := b7
      clear st cur hx3 hx10 b7
      clear q5 f5
      have q5 := B7.out.cell
      have f5 := B7.out.free
      by_cases hlt : k < 3
      · obtain ⟨x, hx⟩ : ∃ x, xs[k]? = some x := ⟨_, List.getElem?_eq_getElem (by rw [X3.out]; omega)⟩
        obtain ⟨gA, Ax, cx, f, eA, hmA, hcA, hfA, _⟩ := SR.out.oc.rowAt k x hx
        simp only [Option.some.injEq, Addr.mk.injEq, and_true] at eA
        subst eA
        have n2 := (SR.out.bc gL hmA).2
        have gll := SR.out.oc.lt gL hmA
        have g5l := SR.out.b5.lt
        have X9 : Hid (Ext wr (wr.alloc (.cells (madeCells #[.int .i64 0] m) 3)).drew) := (Ext.alloc _ _).trans (Ext.drew _)
        have OW : Hid (OwnI 3 (wr.alloc (.cells (madeCells #[.int .i64 0] m) 3)).drew 0 (some ⟨wr.heap.size, 0, none⟩) m m (List.replicate m 0)) := Own.drew (OwnI.madeD wr (lo := 0) m (by omega) (Nat.zero_le _))
        have q5a := (B7.out.alloc (.cells (madeCells #[.int .i64 0] m) 3)).cell
        have hcB : (wr.alloc (.cells (madeCells #[.int .i64 0] m) 3)).cell? ⟨gL, k, none⟩ = some (.slice Ax x.length cx) := by rw [cellA (by simpa using gll)]; exact hcA
        have hfB : (wr.alloc (.cells (madeCells #[.int .i64 0] m) 3)).frozen? ⟨gL, k, none⟩ = false := by rw [freeA (by simpa using gll)]; exact hfA
        have hki : (k : Int) < 3 := by omega
        have HF := hide (SR.out.fresh (wm := (wr.alloc (.cells (madeCells #[.int .i64 0] m) 3)).drew) hg (by rw [X3.out]; exact hlt) X9.out OW.out (by simp [World.drew]))
        have mkr := MKR.out
        have HX := hide hx
        obtain ⟨lx, hlx⟩ : ∃ lx, lx = x.length := ⟨_, rfl⟩
        rw [← hlx] at hcA hcB
        clear hx hlx
        go_wp2
        go_region
        all_goals
          clear mkr
          go_wp2
          go_roundw
          case rel =>
            obtain ⟨fp2, h3⟩ := HF.out
            have h4 := (CR.out.ext X9.out).tchF (TchF.put _ ⟨gL, k, none⟩ (.slice (some ⟨wr.heap.size, 0, none⟩) m m) (fp := [gL]) (by simp)) (fun i hi => by simp at hi; omega)
            rw [World.setCell_drew, World.setCell_alloc_past _ _ _ _ gll] at h3 h4
            exact ⟨k + 1, xs.set k (List.replicate m 0), fp2, by omega, by go_num, by rw [List.length_set]; exact X3.out, rows_set X10.out (by simp; omega), h3, h4⟩
          case measure => simp [intOf]; omega
      · obtain rfl : k = 3 := by omega
        have q0 := SR.out.b0.cell
        have f0 := SR.out.b0.free
        go_wp2
        refine bodyPost_ret (v := .agg #[.slice none 0 0, .slice (some ⟨gL, 0, none⟩) 3 c']) (by simp [results, Tryz.results35, go_sem, q0]) rfl ?_
        have hr := kM.rdA SR.out.fr
        rw [X3.out] at hr
        exact am_end hg hr (kM.ok_small hn (by simp) (by rw [X3.out]; omega) (by simp) X10.out) CR.out (by omega) SR.out.tch
  have b5 : (r == 5) = false := by simpa using r5
  by_cases r6 : r = 6
  · subst r6
    clear r0 r1 r2 r3 r4 r5
    go_wp2
    refine bodyPost_ret (v := .agg #[.slice none 0 0, .slice none 0 0]) (by simp [results, Tryz.results35, go_sem, q0]) rfl ?_
    have t2 := (TchF.put w5 ⟨g5, 0, none⟩ (.slice none 0 0) (fp := [g5]) (by simp)).trans (TchF.put (w5.setCell ⟨g5, 0, none⟩ (.slice none 0 0)) ⟨g5, 1, none⟩ (.slice none 0 0) (fp := [g5]) (by simp))
    have h5 := ST.out.h5
    exact am_end (dz := ([], [])) hg (fun wx _ _ => kM.fr_rd (kM.fr_nil wx 0 0)) kM.ok_nil (CA.out.tchF t2 (fun i hi => by simp at hi; omega)) (by omega) (ST.out.tch.step t2 (fun i hi => .inr (by simp at hi; omega)))
  have b6 : (r == 6) = false := by simpa using r6
  clear r0 r1 r2 r3 r4 r5 r6
  go_wp2
  refine bodyPost_ret (v := .agg #[.slice A n c, .slice A' 3 c']) (by simp [results, Tryz.results35, go_sem, q0]) rfl ?_
  exact FIN.out _ d _ _ ST.out (CA.out.more (by omega)) HD1.out HD2.out R1.out R2.out
end Go.Proofs.YtnokilofcdbjhaaGreatDoor

/- The draws of the laws over marks. -/
namespace Go.Proofs.YtnokilofcdbjhaaGreatDoor
open Go.RowKit Go.Sort
set_option linter.unusedVariables false

/-- Bytes that came in. -/
structure ArgB (w : World) (A : Option Addr) (n c : Nat) : Prop where
  cap : n ≤ c
  capm : c ≤ 9223372036854775807
  cells : 0 < n → ∃ b off, A = some ⟨b, off, none⟩ ∧ b < w.heap.size ∧ ∀ k, k < n → ∃ x, w.cell? ⟨b, off + k, none⟩ = some (.int .u8 x) ∧ 0 ≤ x ∧ x ≤ 255
theorem ArgB.ext {w w' : World} {A : Option Addr} {n c : Nat} (h : ArgB w A n c) (k : Ext w w') : ArgB w' A n c := by
  refine ⟨h.cap, h.capm, fun hn => ?_⟩
  obtain ⟨b, off, e, hb, hc⟩ := h.cells hn
  refine ⟨b, off, e, by have := k.size; omega, fun j hj => ?_⟩
  obtain ⟨x, hx, h1⟩ := hc j hj
  exact ⟨x, (k.cell hb).trans hx, h1⟩
theorem Cur.new {w : World} {A : Option Addr} {n c : Nat} (h : ArgB w A n c) : Cur (w.alloc (.cells #[.slice A n c, .int .i64 0, .int .u64 0] 65)) w.heap.size 0 := by
  refine ⟨A, n, c, 0, 0, Blk.new rfl _ _, Nat.le_refl _, Nat.le_trans h.cap h.capm, by omega, by omega, fun h0 => ?_⟩
  obtain ⟨b, off, e, hb, hc⟩ := h.cells h0
  refine ⟨b, off, e, hb, fun j hj => ?_⟩
  obtain ⟨x, hx, h1⟩ := hc j hj
  exact ⟨x, (cellA (by simpa using hb)).trans hx, h1⟩
theorem TchF.ext_of {g : Nat} {w a b : World} (h : Ext w a) (k : TchF [g] a b) (hg : w.heap.size ≤ g) : Ext w b := h.tchF k (by simpa using hg)
theorem kM.end2 {w wz : World} {lo : Nat} {v u0 u1 : Value} {d : MD} (h : RdA kM lo wz v d) (hl : w.heap.size < lo) (hx : Ext w wz) :
    kM.rd ((wz.setCell ⟨w.heap.size, 0, none⟩ u0).setCell ⟨w.heap.size, 1, none⟩ u1) v d ∧ Ext w ((wz.setCell ⟨w.heap.size, 0, none⟩ u0).setCell ⟨w.heap.size, 1, none⟩ u1) :=
  ⟨((h.far (by simpa using hl) u0).far (by simpa using hl) u1).rd, Below.setCell (Below.setCell hx (by simp) _) (by simp) _⟩
theorem kM.end2D {w wz : World} {lo : Nat} {v u0 u1 : Value} {d : MD} (h : RdA kM lo wz v d) (hl : w.heap.size < lo) (hx : Ext w wz) :
    kM.rd ((wz.setCell ⟨w.heap.size, 0, none⟩ u0).setCell ⟨w.heap.size, 1, none⟩ u1).drew v d ∧ Ext w ((wz.setCell ⟨w.heap.size, 0, none⟩ u0).setCell ⟨w.heap.size, 1, none⟩ u1).drew :=
  ⟨kM.rd_ext (kM.end2 h hl hx).1 (Ext.drew _), (kM.end2 h hl hx).2.trans (Ext.drew _)⟩

theorem inr_wrap (x : Int) : InR (IntKind.i64.wrap x) := by
  have h : (Lit.int .i64 (IntKind.i64.wrap x)).wf = true := wf_wrap _ _
  simp [Lit.wf, IntKind.min, IntKind.max, IntKind.signed, IntKind.bits] at h
  unfold InR
  omega
end Go.Proofs.YtnokilofcdbjhaaGreatDoor
