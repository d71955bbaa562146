/- GD: DA, DB, DC, DD, DE, DF, DG in one text. -/
import Derived.Test.YtofmfagdaiphaaaGB
import Derived.OpenShut
import Derived.Test.YtofmfagdaiphaaaGA
import Derived.Test.YtofmfagdaiphaaaGM
import Derived.Deep.RegionHeld3
import Derived.Deep.OwnRows
/- The generator's cursor: a byte drawn. -/
namespace Go.Proofs.Ytofmfagdaiphaaa
open Go.RowKit Go.Sort
set_option linter.unusedVariables false

/-- A cursor in block g, at most N bytes drawn. -/
def Cur (w : World) (g N : Nat) : Prop := ∃ (A : Option Addr) (n c at_ : Nat) (seed : Int), Blk w g #[.slice A n c, .int .i64 at_, .int .u64 seed] 70 ∧ at_ ≤ N ∧ n ≤ 9223372036854775807 ∧ 0 ≤ seed ∧ seed ≤ 18446744073709551615 ∧
  (0 < n → ∃ b off, A = some ⟨b, off, none⟩ ∧ b < g ∧ ∀ k, k < n → ∃ x, w.cell? ⟨b, off + k, none⟩ = some (.int .u8 x) ∧ 0 ≤ x ∧ x ≤ 255)
theorem Cur.more {w : World} {g N M : Nat} (h : Cur w g N) (hm : N ≤ M) : Cur w g M := by
  obtain ⟨A, n, c, a, s, hb, h1, h2⟩ := h
  exact ⟨A, n, c, a, s, hb, by omega, h2⟩
theorem Cur.lt {w : World} {g N : Nat} (h : Cur w g N) : g < w.heap.size := by
  obtain ⟨A, n, c, a, s, hb, h1, h2⟩ := h
  exact hb.lt
theorem Cur.tchF {w w' : World} {g N : Nat} {fp : List Nat} (h : Cur w g N) (k : TchF fp w w') (hd : ∀ i ∈ fp, g < i) : Cur w' g N := by
  obtain ⟨A, n, c, a, s, hb, h1, h2, h3, h4, h5⟩ := h
  have hg := hb.lt
  refine ⟨A, n, c, a, s, hb.tchF k (fun hm => by have := hd g hm; omega), h1, h2, h3, h4, fun hn => ?_⟩
  obtain ⟨b, off, e, hbg, hc⟩ := h5 hn
  refine ⟨b, off, e, hbg, fun j hj => ?_⟩
  obtain ⟨x, hx, h6⟩ := hc j hj
  exact ⟨x, (World.cell?_of_block (k.block b (by omega) (fun hm => by have := hd b hm; omega))).trans hx, h6⟩
theorem Cur.ext {w w' : World} {g N : Nat} (h : Cur w g N) (k : Ext w w') : Cur w' g N := h.tchF (TchF.of_ext k (fp := [])) (by simp)

theorem and255 (E : Int) (h0 : 0 ≤ E) (h1 : E ≤ 18446744073709551615) : 0 ≤ bits BinOp.and IntKind.u64 E 255 ∧ bits BinOp.and IntKind.u64 E 255 ≤ 255 := by
  have h := bits_and_u64_nat E.toNat 255 (by omega) (by omega)
  rw [Int.toNat_of_nonneg h0] at h
  have h2 : E.toNat &&& 255 ≤ 255 := Nat.and_le_right
  have h3 : bits BinOp.and IntKind.u64 E 255 = ((E.toNat &&& 255 : Nat) : Int) := h
  rw [h3]
  omega

theorem TchF.put {fp : List Nat} (w : World) (p : Addr) (v : Value) (hp : p.block ∈ fp) : TchF fp w (w.setCell p v) := by
  have h := Below.setCell (Below.refl 0 w) (Nat.zero_le p.block) v
  exact ⟨h.os, h.tape, h.output, h.size, fun k hk hr => Below.heap_setCell _ _ _ _ (fun e => hr (e ▸ hp))⟩
theorem u64_wrap_bd (x : Int) : 0 ≤ IntKind.u64.wrap x ∧ IntKind.u64.wrap x ≤ 18446744073709551615 := bounds_u64 (wf_wrap _ _)
theorem Cur.next {w w9 : World} {g N n c a : Nat} {A : Option Addr} {s S : Int} (hb : Blk w g #[.slice A n c, .int .i64 a, .int .u64 s] 70) (h1 : a ≤ N) (h2 : n ≤ 9223372036854775807) (hS : 0 ≤ S ∧ S ≤ 18446744073709551615)
    (h5 : 0 < n → ∃ b off, A = some ⟨b, off, none⟩ ∧ b < g ∧ ∀ k, k < n → ∃ x, w.cell? ⟨b, off + k, none⟩ = some (.int .u8 x) ∧ 0 ≤ x ∧ x ≤ 255) (hx : Ext ((w.setCell ⟨g, 1, none⟩ (.int .i64 ((a : Int) + 1))).setCell ⟨g, 2, none⟩ (.int .u64 S)) w9) :
    Cur w9 g (N + 1) ∧ TchF [g] w w9 := by
  have k1 := TchF.put w ⟨g, 1, none⟩ (.int .i64 ((a : Int) + 1)) (fp := [g]) (by simp)
  have k2 := TchF.put (w.setCell ⟨g, 1, none⟩ (.int .i64 ((a : Int) + 1))) ⟨g, 2, none⟩ (.int .u64 S) (fp := [g]) (by simp)
  have k := (k1.trans k2).trans (TchF.of_ext hx)
  refine ⟨⟨A, n, c, a + 1, S, ?_, by omega, h2, hS.1, hS.2, fun hn => ?_⟩, k⟩
  · have b2 := ((hb.set 1 (.int .i64 ((a : Int) + 1))).set 2 (.int .u64 S)).ext hx
    exact b2
  · obtain ⟨b, off, e, hbg, hc⟩ := h5 hn
    have hg := hb.lt
    refine ⟨b, off, e, hbg, fun j hj => ?_⟩
    obtain ⟨x, hx, h6⟩ := hc j hj
    exact ⟨x, (World.cell?_of_block (k.block b (by omega) (fun hm => by simp at hm; omega))).trans hx, h6⟩

set_option maxRecDepth 100000 in
set_option maxHeartbeats 1000000 in
theorem cu.next_m (w : World) (g N : Nat) (h : Cur w g N) (hN : N ≤ 4611686018427387904) :
    Calls Try.prog 75 #[.pointer (some ⟨g, 0, none⟩)] w fun e w' => ∃ r, e = .returned (.int .i64 r) ∧ 0 ≤ r ∧ r ≤ 255 ∧ Cur w' g (N + 1) ∧ TchF [g] w w' := by
  obtain ⟨A, n, c, a, s, hb, h1, h2, h3, h4, h5⟩ := h
  have B := hide hb
  have c0 := hb.cell 0; have c1 := hb.cell 1; have c2 := hb.cell 2
  simp at c0 c1 c2
  have fz := hb.free
  clear hb
  by_cases hlt : a < n
  · obtain ⟨b, off, rfl, hbg, hc⟩ := h5 (by omega)
    have C5 := hide hc
    obtain ⟨x, hx, x0, x1⟩ := hc a hlt
    have i1 : (a : Int) < (n : Int) := by omega
    clear hc h5
    go_enter Try.func75, Try.ntmps75
    go_wp2
    go_region
    go_wp2
    go_region
    go_wp2
    go_region
    go_wp2
    go_ret
    obtain ⟨S, hS⟩ : ∃ S, S = IntKind.u64.wrap (IntKind.u64.wrap (IntKind.u64.wrap (s * 6364136223846793005) + x) + 1442695040888963407) := ⟨_, rfl⟩
    rw [← hS]
    have sb := u64_wrap_bd (IntKind.u64.wrap (IntKind.u64.wrap (s * 6364136223846793005) + x) + 1442695040888963407)
    rw [← hS] at sb
    exact ⟨x, rfl, x0, x1, Cur.next B.out (by omega) h2 sb (fun _ => ⟨b, off, rfl, hbg, C5.out⟩) ((Ext.drew _).trans ((Ext.drew _).trans (Ext.drew _)))⟩
  · have C5 := hide h5
    clear h5
    go_enter Try.func75, Try.ntmps75
    go_wp2
    go_region
    go_wp2
    go_region
    go_wp2
    obtain ⟨S, hS⟩ : ∃ S, S = IntKind.u64.wrap (IntKind.u64.wrap (IntKind.u64.wrap (s * 6364136223846793005)) + 1442695040888963407) := ⟨_, rfl⟩
    rw [← hS]
    have sb := u64_wrap_bd (IntKind.u64.wrap (IntKind.u64.wrap (s * 6364136223846793005)) + 1442695040888963407)
    rw [← hS] at sb
    have hr := and255 (S / 1099511627776) (by omega) (by omega)
    generalize bits BinOp.and IntKind.u64 (S / 1099511627776) 255 = R at *
    have hw : wrap64 R = R := IntWalk.wrap64_in R (by omega)
    rw [hw]
    go_ret
    exact ⟨R, rfl, hr.1, hr.2, Cur.next B.out (by omega) h2 sb C5.out ((Ext.drew _).trans (Ext.drew _))⟩
theorem mod_bd {x n : Int} (hn : 1 ≤ n) : 0 ≤ x % n ∧ x % n < n := ⟨Int.emod_nonneg _ (by omega), Int.emod_lt_of_pos _ (by omega)⟩
set_option maxRecDepth 100000 in
set_option maxHeartbeats 1000000 in
theorem cu.pick_m (w : World) (g N : Nat) (n : Int) (h : Cur w g N) (hN : N ≤ 4611686018427000000) (hn : InR n) :
    Calls Try.prog 38 #[.pointer (some ⟨g, 0, none⟩), .int .i64 n] w fun e w' => ∃ r, e = .returned (.int .i64 r) ∧ 0 ≤ r ∧ (1 ≤ n → r < n) ∧ (n < 1 → r = 0) ∧ Cur w' g (N + 2) ∧ TchF [g] w w' := by
  have H := hide h
  have hn1 := hn.1; have hn2 := hn.2
  have NX := hide (fun (wq : World) (M : Nat) (hq : Cur wq g M) (hM : M ≤ N + 1) => cu.next_m wq g M hq (by omega))
  clear h hn
  by_cases h1 : n ≤ 1
  · go_enter Try.func38, Try.ntmps38
    go_wp2
    go_ret
    exact ⟨0, rfl, Int.le_refl _, fun _ => by omega, fun _ => rfl, H.out.more (by omega), TchF.refl _ _⟩
  · by_cases h2 : 200 < n
    · go_enter Try.func38, Try.ntmps38
      go_wp2_with fail
      refine (NX.out w N H.out (by omega)).mono ?_
      rintro e w1 ⟨r, rfl, r0, r1, c1, k1⟩
      have C1 := hide c1; have K1 := hide k1
      clear c1 k1
      go_wp2_with fail
      refine (NX.out w1 (N + 1) C1.out (by omega)).mono ?_
      rintro e w2 ⟨q, rfl, q0, q1, c2, k2⟩
      have C2 := hide c2; have K2 := hide k2
      clear c2 k2
      go_wp2
      have tb := mod_bd (x := r * 256 + q) (n := n) (by omega)
      generalize (r * 256 + q) % n = z at *
      go_ret
      exact ⟨z, rfl, tb.1, fun _ => tb.2, fun _ => by omega, C2.out, K1.out.trans K2.out⟩
    · go_enter Try.func38, Try.ntmps38
      go_wp2_with fail
      refine (NX.out w N H.out (by omega)).mono ?_
      rintro e w1 ⟨r, rfl, r0, r1, c1, k1⟩
      have C1 := hide c1; have K1 := hide k1
      clear c1 k1
      go_wp2
      have tb := mod_bd (x := r) (n := n) (by omega)
      generalize r % n = z at *
      go_ret
      exact ⟨z, rfl, tb.1, fun _ => tb.2, fun _ => by omega, C1.out.more (by omega), K1.out⟩
set_option maxRecDepth 100000 in
set_option maxHeartbeats 1000000 in
theorem cu.one_m (w : World) (g N : Nat) (n : Int) (h : Cur w g N) (hN : N ≤ 4611686018427000000) (hn : InR n) :
    Calls Try.prog 53 #[.pointer (some ⟨g, 0, none⟩), .int .i64 n] w fun e w' => ∃ r, e = .returned (.bool r) ∧ Cur w' g (N + 2) ∧ TchF [g] w w' := by
  have P := hide (cu.pick_m w g N n h hN hn)
  clear h hn
  go_enter Try.func53, Try.ntmps53
  go_wp2_with (go_at_call 38; refine P.out.mono ?_; rintro e w1 ⟨r, rfl, r0, -, -, c1, k1⟩; have C1 := hide c1; have K1 := hide k1; clear c1 k1)
  go_ret
  exact ⟨_, rfl, C1.out, K1.out⟩
set_option maxRecDepth 100000 in
set_option maxHeartbeats 1000000 in
theorem cu.among_m (w : World) (g N b c : Nat) (zs : List Int) (h : Cur w g N) (hN : N ≤ 4611686018427000000) (hb : Blk w b (zs.map (Value.int .i64)).toArray 3) (hbg : b ≠ g) (hz : 1 ≤ zs.length) (hz2 : zs.length ≤ 1048576) :
    Calls Try.prog 74 #[.pointer (some ⟨g, 0, none⟩), .slice (some ⟨b, 0, none⟩) zs.length c] w fun e w' => ∃ r, e = .returned (.int .i64 r) ∧ r ∈ zs ∧ Cur w' g (N + 2) ∧ TchF [g] w w' := by
  have P := hide (cu.pick_m w g N zs.length h hN (by unfold InR; omega))
  have HB := hide hb
  have HZ := hide (fun (k : Nat) (hk : k < zs.length) => List.getElem?_eq_getElem hk)
  obtain ⟨m, hm⟩ : ∃ m, Hid (zs.length = m) := ⟨_, rfl⟩
  rw [hm.out] at hz hz2 P ⊢
  clear h hb HZ
  go_enter Try.func74, Try.ntmps74
  go_wp2_with fail
  refine P.out.mono ?_
  rintro e w1 ⟨r, rfl, r0, r1, -, c1, k1⟩
  have C1 := hide c1; have K1 := hide k1
  obtain ⟨k, rfl⟩ : ∃ k : Nat, r = k := ⟨r.toNat, by omega⟩
  have hk : (k : Int) < m := r1 (by omega)
  have hk2 : k < zs.length := by have := hm.out; omega
  have B1 := hide (HB.out.tchF k1 (by simpa using hbg))
  have cc : w1.cell? ⟨b, k, none⟩ = some (.int .i64 zs[k]) := by rw [B1.out.cell]; simp [hk2]
  have mem : zs[k] ∈ zs := List.getElem_mem hk2
  have MEM := hide mem
  clear c1 k1 mem
  generalize zs[k] = z at *
  go_wp2
  go_ret
  exact ⟨z, rfl, MEM.out, C1.out, K1.out⟩
end Go.Proofs.Ytofmfagdaiphaaa

/- Drawn marks: the numbers of judges and items; valid marks. -/
namespace Go.Proofs.Ytofmfagdaiphaaa
open Go.RowKit Go.Sort
set_option linter.unusedVariables false

/-- A step behind a step: what turns is the cursor's or new. -/
theorem TchF.step {g : Nat} {fp : List Nat} {w a b : World} (h : TchF [g] w a) (k : TchF fp a b) (hd : ∀ i ∈ fp, i = g ∨ w.heap.size ≤ i) : TchF [g] w b :=
  ⟨k.os.trans h.os, k.tape.trans h.tape, k.output.trans h.output, Nat.le_trans h.size k.size, fun i hi hm => (k.block i (Nat.lt_of_lt_of_le hi h.size) (fun hh => by
    rcases hd i hh with e | e
    · exact hm (by simp [e])
    · omega)).trans (h.block i hi hm)⟩
theorem TchF.stepX {g : Nat} {w a b : World} (h : TchF [g] w a) (k : Ext a b) : TchF [g] w b := h.step (TchF.of_ext k (fp := [])) (by simp)
def lenV : Value → Nat
  | .slice _ n _ => n
  | _ => 0
def lenAt (w : World) (b o : Nat) : Nat := match w.cell? ⟨b, o, none⟩ with
  | some (.slice _ n _) => n
  | _ => 0
theorem lenAt_of {w : World} {b o n c : Nat} {A : Option Addr} (h : w.cell? ⟨b, o, none⟩ = some (.slice A n c)) : lenAt w b o = n := by unfold lenAt; rw [h]

end Go.Proofs.Ytofmfagdaiphaaa

/- Valid marks drawn: both lists of rows. (Printed by db.py.) -/
namespace Go.Proofs.Ytofmfagdaiphaaa
open Go.RowKit Go.Sort
set_option linter.unusedVariables false

section
variable {w wr w2 : World} {g J : Nat} {Ag : Option Addr} {ng cg : Nat} {xg : List (List Int)} {fg : List Nat} {Ac : Option Addr} {nc cc : Nat} {xc : List (List Int)} {fc : List Nat}
end
theorem own_tch {e : TypeId} {w w' : World} {lo n c : Nat} {A : Option Addr} {zs : List Int} {fp : List Nat} (h : OwnI e w lo A n c zs) (k : TchF fp w w') (hd : ∀ p, A = some p → p.block ∉ fp) : OwnI e w' lo A n c zs := by
  have hf := OwnI.form h
  refine ⟨h.1, ?_⟩
  rcases h.2 with h | ⟨g, cap, cur, h, h1, h2, r⟩
  · exact .inl h
  · refine .inr ⟨g, cap, cur, h, h1, ?_, r⟩
    simp only [Value.slice.injEq] at h
    rcases hf with ⟨hA, _⟩ | ⟨g', hA, _, hlt, _⟩
    · rw [hA] at h; simp at h
    · rw [hA] at h
      have e : g' = g := by simpa using h.1
      subst e
      rw [k.block g' hlt (hd _ hA), h2]
/-- A row of its own behind an append. -/
theorem row_apd {w w3 : World} {lo j c3 : Nat} {A A3 : Option Addr} {zs : List Int} {y : Int} (ha : Apd 3 w lo A w3 A3 (j + 1) c3 (zs.map (Value.int .i64) ++ [.int .i64 y])) : OwnI 3 w3 lo A3 (j + 1) c3 (zs ++ [y]) :=
  own_conv ha.own (Nat.le_refl _) rfl (by simp)

end Go.Proofs.Ytofmfagdaiphaaa

/- What is read above a block; lists that share their inner memory; marks under way in a draw. -/
namespace Go.Proofs.Ytofmfagdaiphaaa
open Go.RowKit Go.Sort
set_option linter.unusedVariables false

/-- The value reads as d, and its memory lies in blocks from lo on. -/
def RdA {D : Type} (K : Kind D) (lo : Nat) (w : World) (v : Value) (d : D) : Prop :=
  ∀ w2 : World, w.heap.size ≤ w2.heap.size → (∀ i, lo ≤ i → i < w.heap.size → w2.heap[i]? = w.heap[i]?) → K.rd w2 v d
section
variable {D : Type} {K : Kind D} {w w' : World} {lo lo' hi : Nat} {v : Value} {d : D} {fp : List Nat}
theorem RdA.rd (h : RdA K lo w v d) : K.rd w v d := h w (Nat.le_refl _) (fun _ _ _ => rfl)
theorem RdA.tchF (h : RdA K lo w v d) (k : TchF fp w w') (hd : ∀ i ∈ fp, i < lo ∨ w.heap.size ≤ i) : RdA K lo w' v d := fun w2 hs hb =>
  h w2 (Nat.le_trans k.size hs) (fun i h1 h2 => (hb i h1 (Nat.lt_of_lt_of_le h2 k.size)).trans (k.block i h2 (fun hm => by have := hd i hm; omega)))
theorem RdA.ext (h : RdA K lo w v d) (k : Ext w w') : RdA K lo w' v d := h.tchF (TchF.of_ext k (fp := [])) (by simp)
theorem RdA.mono (h : RdA K lo w v d) (hl : lo' ≤ lo) : RdA K lo' w v d := fun w2 hs hb => h w2 hs (fun i h1 h2 => hb i (by omega) h2)
theorem RdA.far (h : RdA K lo w v d) {p : Addr} (hp : p.block < lo) (u : Value) : RdA K lo (w.setCell p u) v d := fun w2 hs hb =>
  h w2 (by simpa [World.setCell] using hs) (fun i h1 h2 => (hb i h1 (by simpa [World.setCell] using h2)).trans (Below.heap_setCell _ _ _ _ (by omega)))
end
theorem kM.rdA {w : World} {lo hi : Nat} {v : Value} {d : MD} (h : kM.fr w lo hi v d) : RdA kM lo w v d := by
  obtain ⟨vs, fp, rfl, h, hf⟩ := h
  intro w2 hs hb
  exact ⟨vs, rfl, kdM.own_rd (kdM.own_keep h (fun i hi => hb i (hf i hi).1 (kdM.own_lt h i hi)))⟩

/-- A row of slices that are read. -/
theorem LR.of_cells {w : World} {B g c : Nat} {xs : List (List Int)} (hg : g < B) (h1 : xs.length ≤ c) (h2 : c ≤ 9223372036854775807) (h : ∀ (k : Nat) (x : List Int), xs[k]? = some x → ∃ Ax cx, w.cell? ⟨g, k, none⟩ = some (.slice Ax x.length cx) ∧ LR kdInt w B Ax cx x) : LR kdL w B (some ⟨g, 0, none⟩) c xs := by
  refine ⟨h1, h2, fun k x hx => ?_⟩
  obtain ⟨Ax, cx, hc, hr⟩ := h k x hx
  refine ⟨g, 0, [.slice Ax x.length cx], rfl, hg, ⟨Ax, cx, rfl, hr⟩, fun j u hu => ?_⟩
  obtain rfl : j = 0 := by have := (List.getElem?_eq_some_iff.1 hu).1; simp at this; omega
  simp at hu
  subst hu
  rw [show 0 + (k * kdL.size + 0) = k from by show 0 + (k * 1 + 0) = k; omega]
  exact hc
theorem LR.mk {w : World} {A : Option Addr} {c : Nat} {xs : List (List Int)} {A' : Option Addr} {c' : Nat} {ys : List (List Int)} (h : LR kdL w w.heap.size A c xs) (h' : LR kdL w w.heap.size A' c' ys) : kM.rd w (.agg #[.slice A xs.length c, .slice A' ys.length c']) (xs, ys) :=
  ⟨[.slice A xs.length c, .slice A' ys.length c'], rfl, [.slice A xs.length c], [.slice A' ys.length c'], rfl, ⟨A, c, rfl, h⟩, ⟨A', c', rfl, h'⟩⟩

theorem wtL_le {xs : List (List Int)} {m : Nat} (h : ∀ x ∈ xs, x.length ≤ m) : wtL kdL xs ≤ (m + 1) * xs.length := by
  induction xs with
  | nil => exact Nat.zero_le _
  | cons x t ih =>
    have h1 := ih (fun y hy => h y (List.mem_cons_of_mem _ hy))
    have h2 : kdL.wt x = x.length := wtL_int x
    have h3 := h x (List.mem_cons_self ..)
    show 1 + kdL.wt x + wtL kdL t ≤ (m + 1) * (t.length + 1)
    rw [Nat.mul_add, Nat.mul_one]
    omega
theorem kM.ok_small {d : MD} {n : Nat} (hn : n ≤ 1000) (h1 : d.1.length ≤ n) (h2 : d.2.length ≤ 4) (h3 : ∀ x ∈ d.1, x.length ≤ 10) (h4 : ∀ x ∈ d.2, x.length ≤ 10) : kM.ok d := by
  have e1 := wtL_le h3
  have e2 := wtL_le h4
  have e3 : kdM.wt d = wtL kdL d.1 + wtL kdL d.2 := rfl
  show kdM.wt d ≤ 1048576
  omega

section
variable {w wr w2 : World} {g g5 : Nat} {A : Option Addr} {c : Nat} {A' : Option Addr} {c' : Nat} {d : MD} {fp fp' : List Nat}
end
/-- The result stored in its own cells. -/
theorem ret_two {w wr : World} {g lo N : Nat} {v u0 u1 : Value} {d : MD} (h : RdA kM lo wr v d) (hl : w.heap.size < lo) (hc : Cur wr g N) (hg : g < w.heap.size) (ht : TchF [g] w wr) :
    RdA kM w.heap.size ((wr.setCell ⟨w.heap.size, 0, none⟩ u0).setCell ⟨w.heap.size, 1, none⟩ u1) v d ∧ Cur ((wr.setCell ⟨w.heap.size, 0, none⟩ u0).setCell ⟨w.heap.size, 1, none⟩ u1) g N ∧ TchF [g] w ((wr.setCell ⟨w.heap.size, 0, none⟩ u0).setCell ⟨w.heap.size, 1, none⟩ u1) := by
  have t2 := (TchF.put wr ⟨w.heap.size, 0, none⟩ u0 (fp := [w.heap.size]) (by simp)).trans (TchF.put (wr.setCell ⟨w.heap.size, 0, none⟩ u0) ⟨w.heap.size, 1, none⟩ u1 (fp := [w.heap.size]) (by simp))
  exact ⟨((h.far (by simpa using hl) u0).far (by simpa using hl) u1).mono (by omega), hc.tchF t2 (fun i hi => by simp at hi; omega), ht.step t2 (fun i hi => .inr (by simp at hi; omega))⟩
end Go.Proofs.Ytofmfagdaiphaaa

/- Marks whose lists share a row, or hold a part of one. -/
namespace Go.Proofs.Ytofmfagdaiphaaa
open Go.RowKit Go.Sort
set_option linter.unusedVariables false

theorem LO.rowAt {w : World} {A : Option Addr} {c : Nat} {xs : List (List Int)} {fp : List Nat} (h : LO kdL 42 w A c xs fp) (k : Nat) (x : List Int) (hx : xs[k]? = some x) :
    ∃ g Ax cx f, A = some ⟨g, 0, none⟩ ∧ g ∈ fp ∧ w.cell? ⟨g, k, none⟩ = some (.slice Ax x.length cx) ∧ w.frozen? ⟨g, k, none⟩ = false ∧ LO kdInt 3 w Ax cx x f ∧ ∀ i ∈ f, i ∈ fp ∧ i ≠ g := by
  obtain ⟨g, cs, f, hat⟩ := h.at_ k x hx
  obtain ⟨Ax, cx, hcs, hlo⟩ := hat.own
  have hcs : cs = [.slice Ax x.length cx] := hcs
  subst hcs
  have hc : w.cell? ⟨g, k, none⟩ = some (.slice Ax x.length cx) := by
    have := hat.cell 0 _ rfl
    simpa [kdL, kdList] using this
  exact ⟨g, Ax, cx, f, hat.addr, hat.mem, hc, hat.free k, hlo, hat.sub⟩
theorem LO.flatOwn {w : World} {A : Option Addr} {c : Nat} {xs : List (List Int)} {fp : List Nat} (h : LO kdL 42 w A c xs fp) : ∃ vs, Own 42 w 0 A xs.length c vs := by
  obtain ⟨css, fps, hr, _⟩ := h
  exact ⟨css.flatten, hr⟩
theorem SlI.drop1 {w : World} {B n : Nat} {g : Nat} {x : List Int} (h : SlI w B (some ⟨g, 0, none⟩) n x) (hn : 0 < n) : SlI w B (some ⟨g, 1, none⟩) (n - 1) (x.drop 1) := by
  have hl := h.len
  obtain ⟨b, off, e, hb, hc⟩ := h.2 hn
  simp only [Option.some.injEq, Addr.mk.injEq, and_true] at e
  obtain ⟨rfl, rfl⟩ := e
  refine ⟨by simp; omega, fun _ => ⟨g, 1, rfl, hb, fun k u hu => ?_⟩⟩
  have := hc (k + 1) u (by rw [← hu]; simp)
  rwa [show 0 + (k + 1) = 1 + k by omega] at this

section
variable {w wr : World} {g g5 : Nat} {A : Option Addr} {c : Nat} {A' : Option Addr} {c' : Nat} {d : MD} {fp fp' : List Nat}
end
theorem made_zeroD (n : Nat) : (madeCells #[Value.int .i64 0] n).toList = (List.replicate n (0 : Int)).map (Value.int .i64) := by
  have h := part_made (List.replicate n 0) n (by simp)
  rw [h]
  congr 1
  simp [part]
theorem OwnI.madeD (w : World) {lo : Nat} (n : Nat) (hn : n ≤ 1048576) (hlo : lo ≤ w.heap.size) : OwnI 3 (w.alloc (.cells (madeCells #[.int .i64 0] n) 3)) lo (some ⟨w.heap.size, 0, none⟩) n n (List.replicate n 0) := by
  have h := World.ownsRow_lit (e := 3) (size := 1) (base := lo) w (madeCells #[.int .i64 0] n) n hlo (by unfold maxLen; omega) (by simp [madeCells])
  rw [made_zeroD] at h
  exact h
section
variable {w wr : World} {g g5 : Nat} {A : Option Addr} {c : Nat} {A' : Option Addr} {c' : Nat} {d : MD} {fp fp' : List Nat}
end
end Go.Proofs.Ytofmfagdaiphaaa

/- Marks drawn, mostly valid ones. -/
namespace Go.Proofs.Ytofmfagdaiphaaa
open Go.RowKit Go.Sort
set_option linter.unusedVariables false

theorem am_end {w wz : World} {g M N n : Nat} {v u0 u1 : Value} {dz : MD} (hg : g < w.heap.size) (h : RdA kM (w.heap.size + 1) wz v dz) (ok : kM.ok dz) (hc : Cur wz g M) (hM : M ≤ N + 20 * n + 200) (ht : TchF [g] w wz) :
    ∃ v' d, Ending.returned v = .returned v' ∧ RdA kM w.heap.size ((wz.setCell ⟨w.heap.size, 0, none⟩ u0).setCell ⟨w.heap.size, 1, none⟩ u1) v' d ∧ kM.ok d ∧ Cur ((wz.setCell ⟨w.heap.size, 0, none⟩ u0).setCell ⟨w.heap.size, 1, none⟩ u1) g (N + 20 * n + 200) ∧ TchF [g] w ((wz.setCell ⟨w.heap.size, 0, none⟩ u0).setCell ⟨w.heap.size, 1, none⟩ u1) := by
  obtain ⟨e1, e2, e3⟩ := ret_two (u0 := u0) (u1 := u1) h (Nat.lt_succ_self _) hc hg ht
  exact ⟨_, dz, rfl, e1, ok, e2.more hM, e3⟩
theorem am_endD {w wz : World} {g M N n : Nat} {v u0 u1 : Value} {dz : MD} (hg : g < w.heap.size) (h : RdA kM (w.heap.size + 1) wz v dz) (ok : kM.ok dz) (hc : Cur wz g M) (hM : M ≤ N + 20 * n + 200) (ht : TchF [g] w wz) :
    ∃ v' d, Ending.returned v = .returned v' ∧ RdA kM w.heap.size ((wz.setCell ⟨w.heap.size, 0, none⟩ u0).setCell ⟨w.heap.size, 1, none⟩ u1).drew v' d ∧ kM.ok d ∧ Cur ((wz.setCell ⟨w.heap.size, 0, none⟩ u0).setCell ⟨w.heap.size, 1, none⟩ u1).drew g (N + 20 * n + 200) ∧ TchF [g] w ((wz.setCell ⟨w.heap.size, 0, none⟩ u0).setCell ⟨w.heap.size, 1, none⟩ u1).drew := by
  obtain ⟨e1, e2, e3⟩ := ret_two (u0 := u0) (u1 := u1) h (Nat.lt_succ_self _) hc hg ht
  exact ⟨_, dz, rfl, e1.ext (Ext.drew _), ok, (e2.more hM).ext (Ext.drew _), e3.trans (TchF.of_ext (Ext.drew _))⟩
theorem rows_set {xs : List (List Int)} {k m : Nat} {y : List Int} (h : ∀ x ∈ xs, x.length ≤ m) (hy : y.length ≤ m) : ∀ x ∈ xs.set k y, x.length ≤ m := fun x hx => by
  rcases List.mem_or_eq_of_mem_set hx with e | e
  · exact h x e
  · rw [e]; exact hy

end Go.Proofs.Ytofmfagdaiphaaa

/- The draws of the laws over marks. -/
namespace Go.Proofs.Ytofmfagdaiphaaa
open Go.RowKit Go.Sort
set_option linter.unusedVariables false

/-- Bytes that came in. -/
structure ArgB (w : World) (A : Option Addr) (n c : Nat) : Prop where
  cap : n ≤ c
  capm : c ≤ 9223372036854775807
  cells : 0 < n → ∃ b off, A = some ⟨b, off, none⟩ ∧ b < w.heap.size ∧ ∀ k, k < n → ∃ x, w.cell? ⟨b, off + k, none⟩ = some (.int .u8 x) ∧ 0 ≤ x ∧ x ≤ 255
theorem ArgB.ext {w w' : World} {A : Option Addr} {n c : Nat} (h : ArgB w A n c) (k : Ext w w') : ArgB w' A n c := by
  refine ⟨h.cap, h.capm, fun hn => ?_⟩
  obtain ⟨b, off, e, hb, hc⟩ := h.cells hn
  refine ⟨b, off, e, by have := k.size; omega, fun j hj => ?_⟩
  obtain ⟨x, hx, h1⟩ := hc j hj
  exact ⟨x, (k.cell hb).trans hx, h1⟩
theorem Cur.new {w : World} {A : Option Addr} {n c : Nat} (h : ArgB w A n c) : Cur (w.alloc (.cells #[.slice A n c, .int .i64 0, .int .u64 0] 70)) w.heap.size 0 := by
  refine ⟨A, n, c, 0, 0, Blk.new rfl _ _, Nat.le_refl _, Nat.le_trans h.cap h.capm, by omega, by omega, fun h0 => ?_⟩
  obtain ⟨b, off, e, hb, hc⟩ := h.cells h0
  refine ⟨b, off, e, hb, fun j hj => ?_⟩
  obtain ⟨x, hx, h1⟩ := hc j hj
  exact ⟨x, (cellA (by simpa using hb)).trans hx, h1⟩
theorem TchF.ext_of {g : Nat} {w a b : World} (h : Ext w a) (k : TchF [g] a b) (hg : w.heap.size ≤ g) : Ext w b := h.tchF k (by simpa using hg)
theorem kM.end2 {w wz : World} {lo : Nat} {v u0 u1 : Value} {d : MD} (h : RdA kM lo wz v d) (hl : w.heap.size < lo) (hx : Ext w wz) :
    kM.rd ((wz.setCell ⟨w.heap.size, 0, none⟩ u0).setCell ⟨w.heap.size, 1, none⟩ u1) v d ∧ Ext w ((wz.setCell ⟨w.heap.size, 0, none⟩ u0).setCell ⟨w.heap.size, 1, none⟩ u1) :=
  ⟨((h.far (by simpa using hl) u0).far (by simpa using hl) u1).rd, Below.setCell (Below.setCell hx (by simp) _) (by simp) _⟩
theorem kM.end2D {w wz : World} {lo : Nat} {v u0 u1 : Value} {d : MD} (h : RdA kM lo wz v d) (hl : w.heap.size < lo) (hx : Ext w wz) :
    kM.rd ((wz.setCell ⟨w.heap.size, 0, none⟩ u0).setCell ⟨w.heap.size, 1, none⟩ u1).drew v d ∧ Ext w ((wz.setCell ⟨w.heap.size, 0, none⟩ u0).setCell ⟨w.heap.size, 1, none⟩ u1).drew :=
  ⟨kM.rd_ext (kM.end2 h hl hx).1 (Ext.drew _), (kM.end2 h hl hx).2.trans (Ext.drew _)⟩

theorem inr_wrap (x : Int) : InR (IntKind.i64.wrap x) := by
  have h : (Lit.int .i64 (IntKind.i64.wrap x)).wf = true := wf_wrap _ _
  simp [Lit.wf, IntKind.min, IntKind.max, IntKind.signed, IntKind.bits] at h
  unfold InR
  omega
end Go.Proofs.Ytofmfagdaiphaaa
