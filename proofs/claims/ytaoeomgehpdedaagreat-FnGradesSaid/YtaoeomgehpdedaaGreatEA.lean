/- Draws of codes: strings drawn; a code under way. -/
import Derived.Test.YtaoeomgehpdedaaGreatGD
import Derived.Test.YtaoeomgehpdedaaGreatGR
import Derived.Test.YtaoeomgehpdedaaGreatGO
import Derived.Test.YtaoeomgehpdedaaGreatGQ
import Derived.Test.YtaoeomgehpdedaaGreatGM
namespace Go.Proofs.YtaoeomgehpdedaaGreat
open Go.RowKit Go.Sort
set_option linter.unusedVariables false

/-- A short string. -/
def IsStr (v : Value) : Prop := ∃ y : List UInt8, v = .string (bs y) ∧ y.length ≤ 16
theorem isStr_of {y : List UInt8} (h : y.length ≤ 16) : IsStr (.string (bs y)) := ⟨y, rfl, h⟩

set_option maxRecDepth 100000 in
set_option maxHeartbeats 1000000 in
theorem cu.of_m (w : World) (g N : Nat) (A : Option Addr) (n c : Nat) (vs : List Value) (h : Cur w g N) (hN : N ≤ 4611686018427000000) (hs : Sl w w.heap.size A n vs) (hv : ∀ v ∈ vs, IsStr v) (hne : ∀ p, A = some p → p.block ≠ g) (hn : 1 ≤ n) (hn2 : n ≤ 1048576) :
    Calls Tryz.prog 101 #[.pointer (some ⟨g, 0, none⟩), .slice A n c] w fun e w' => ∃ y, e = .returned (.string (bs y)) ∧ y.length ≤ 16 ∧ Cur w' g (N + 2) ∧ TchF [g] w w' := by
  have P := hide (cu.pick_m w g N n h hN (by unfold InR; omega))
  have HV := hide hv
  have HL := hide hs.1
  obtain ⟨b, off, rfl, hb, hc⟩ := hs.2 (by omega)
  have HCL := hide hc
  have bg := hne _ rfl
  clear h hs hv hc hne
  go_enter Tryz.func101, Tryz.ntmps101
  go_wp2_with fail
  refine P.out.mono ?_
  rintro e w1 ⟨r, rfl, r0, r1, -, c1, k1⟩
  have C1 := hide c1; have K1 := hide k1
  obtain ⟨k, rfl⟩ : ∃ k : Nat, r = k := ⟨r.toNat, by omega⟩
  have hk : (k : Int) < n := r1 (by omega)
  have hk2 : k < vs.length := by have := HL.out; omega
  have cc : w1.cell? ⟨b, off + k, none⟩ = some vs[k] := (World.cell?_of_block (k1.block b hb (by simpa using bg))).trans (HCL.out k _ (List.getElem?_eq_getElem hk2))
  obtain ⟨y, hy, hy2⟩ := HV.out vs[k] (List.getElem_mem hk2)
  rw [hy] at cc
  have HY := hide hy2
  clear c1 k1 hy hy2 P
  go_wp2
  go_ret
  exact ⟨y, rfl, HY.out, C1.out, K1.out⟩

set_option maxRecDepth 100000 in
set_option maxHeartbeats 1000000 in
theorem cu.names_m (w : World) : Calls Tryz.prog 113 #[] w fun e w' => ∃ (g : Nat) (vs : List Value), e = .returned (.slice (some ⟨g, 0, none⟩) 24 24) ∧ Blk w' g vs.toArray 9 ∧ vs.length = 24 ∧ (∀ v ∈ vs, IsStr v) ∧ w.heap.size ≤ g ∧ Ext w w' := by
  go_enter Tryz.func113, Tryz.ntmps113
  go_wp2
  go_ret
  refine ⟨_, _, rfl, Blk.new rfl _ _, rfl, ?_, Nat.le_refl _, Ext.alloc _ _⟩
  intro v hv
  simp only [List.mem_cons, List.not_mem_nil, or_false] at hv
  rcases hv with h | h | h | h | h | h | h | h | h | h | h | h | h | h | h | h | h | h | h | h | h | h | h | h <;> subst h <;> exact ⟨_, rfl, by decide⟩

abbrev zC : Array Value := #[.slice none 0 0, .slice none 0 0, .int .i64 0, .int .i64 0, .int .i64 0, .int .i64 0]
/-- A code under way in box b; the result's box is the first new block. -/
structure CoSt (w wr : World) (g b : Nat) (A1 : Option Addr) (n1 c1 : Nat) (xs : List ElD) (f1 : List Nat) (A2 : Option Addr) (n2 c2 : Nat) (zs : List Int) (f2 : List Nat) (r bo k f : Int) : Prop where
  b0 : Blk wr w.heap.size zC 26
  bb : Blk wr b #[.slice A1 n1 c1, .slice A2 n2 c2, .int .i64 r, .int .i64 bo, .int .i64 k, .int .i64 f] 26
  o1 : LO kdEl 84 wr A1 c1 xs f1
  o2 : LO kdInt 3 wr A2 c2 zs f2
  l1 : xs.length = n1
  l2 : zs.length = n2
  hb : w.heap.size < b
  p1 : ∀ i ∈ f1, w.heap.size < i ∧ i ≠ b
  p2 : ∀ i ∈ f2, w.heap.size < i ∧ i ≠ b ∧ i ∉ f1
  tch : TchF [g] w wr
  sm : ∀ x ∈ xs, x.1.length ≤ 16
section
variable {w wr w2 : World} {g b : Nat} {A1 : Option Addr} {n1 c1 : Nat} {xs : List ElD} {f1 : List Nat} {A2 : Option Addr} {n2 c2 : Nat} {zs : List Int} {f2 : List Nat} {r bo kp f : Int}
theorem CoSt.keep {fp : List Nat} (h : CoSt w wr g b A1 n1 c1 xs f1 A2 n2 c2 zs f2 r bo kp f) (hg : g < w.heap.size) (k : TchF fp wr w2) (hd : ∀ i ∈ fp, i = g ∨ (w.heap.size < i ∧ i ≠ b ∧ i ∉ f1 ∧ i ∉ f2)) : CoSt w w2 g b A1 n1 c1 xs f1 A2 n2 c2 zs f2 r bo kp f where
  b0 := h.b0.tchF k (fun hm => by rcases hd _ hm with e | e <;> omega)
  bb := h.bb.tchF k (fun hm => by
    have := h.hb
    rcases hd _ hm with e | e
    · omega
    · exact e.2.1 rfl)
  o1 := h.o1.keep fun i hi => k.block i (h.o1.lt i hi) (fun hm => by
    rcases hd _ hm with e | e
    · have := h.p1 i hi; omega
    · exact e.2.2.1 hi)
  o2 := h.o2.keep fun i hi => k.block i (h.o2.lt i hi) (fun hm => by
    rcases hd _ hm with e | e
    · have := h.p2 i hi; omega
    · exact e.2.2.2 hi)
  l1 := h.l1
  l2 := h.l2
  hb := h.hb
  p1 := h.p1
  p2 := h.p2
  tch := h.tch.step k fun i hi => by
    rcases hd i hi with e | e
    · exact .inl e
    · exact .inr (by omega)
  sm := h.sm
theorem CoSt.ext (h : CoSt w wr g b A1 n1 c1 xs f1 A2 n2 c2 zs f2 r bo kp f) (hg : g < w.heap.size) (k : Ext wr w2) : CoSt w w2 g b A1 n1 c1 xs f1 A2 n2 c2 zs f2 r bo kp f := h.keep hg (TchF.of_ext k (fp := [])) (by simp)
theorem CoSt.curs (h : CoSt w wr g b A1 n1 c1 xs f1 A2 n2 c2 zs f2 r bo kp f) (hg : g < w.heap.size) (k : TchF [g] wr w2) : CoSt w w2 g b A1 n1 c1 xs f1 A2 n2 c2 zs f2 r bo kp f := h.keep hg k (fun i hi => .inl (by simpa using hi))
/-- One element more. -/
theorem CoSt.pushE {w3 : World} {A3 : Option Addr} {c3 : Nat} {fp3 : List Nat} {x : ElD} (h : CoSt w wr g b A1 n1 c1 xs f1 A2 n2 c2 zs f2 r bo kp f) (hg : g < w.heap.size) (ha : ApL kdEl 84 wr f1 [] w3 A3 c3 (xs ++ [x]) fp3) (hx : x.1.length ≤ 16) :
    CoSt w (w3.setCell ⟨b, 0, none⟩ (.slice A3 (n1 + 1) c3)) g b A3 (n1 + 1) c3 (xs ++ [x]) fp3 A2 n2 c2 zs f2 r bo kp f := by
  have hs := h.tch.size
  have hbl := h.bb.lt
  have n3 : ∀ i ∈ fp3, w.heap.size < i ∧ i ≠ b ∧ i ∉ f2 := fun i hi => by
    rcases ha.sub i hi with e | e | e
    · have := h.p1 i e
      exact ⟨this.1, this.2, fun hm => (h.p2 i hm).2.2 e⟩
    · simp at e
    · have h1 := h.hb
      exact ⟨by omega, by omega, fun hm => by have := h.o2.lt i hm; omega⟩
  have b1 := (h.bb.tchF ha.tch (fun hm => (h.p1 _ hm).2 rfl)).set 0 (.slice A3 (n1 + 1) c3)
  have hb := h.hb
  refine ⟨?_, b1, ha.own.keep (fun i hi => Below.heap_setCell _ _ _ _ (fun e => (n3 i hi).2.1 e)), ?_, by simp [h.l1], h.l2, hb, fun i hi => ⟨(n3 i hi).1, (n3 i hi).2.1⟩, fun i hi => ⟨(h.p2 i hi).1, (h.p2 i hi).2.1, fun hm => (n3 i hm).2.2 hi⟩, ?_, ?_⟩
  · exact (h.b0.tchF ha.tch (fun hm => by have := h.p1 _ hm; omega)).far (by show w.heap.size ≠ b; omega) _
  · refine (h.o2.keep fun i hi => ha.tch.block i (h.o2.lt i hi) (fun hm => (h.p2 i hi).2.2 hm)).keep (fun i hi => Below.heap_setCell _ _ _ _ (fun e => (h.p2 i hi).2.1 e))
  · exact (h.tch.step ha.tch fun i hi => .inr (by have := h.p1 i hi; omega)).step (TchF.put w3 ⟨b, 0, none⟩ _ (fp := [b]) (by simp)) (fun i hi => .inr (by simp at hi; omega))
  · intro y hy
    rcases List.mem_append.1 hy with e | e
    · exact h.sm y e
    · simp at e; rw [e]; exact hx
/-- One limit more. -/
theorem CoSt.pushL {w3 : World} {A3 : Option Addr} {c3 : Nat} {fp3 : List Nat} {z : Int} (h : CoSt w wr g b A1 n1 c1 xs f1 A2 n2 c2 zs f2 r bo kp f) (hg : g < w.heap.size) (ha : ApL kdInt 3 wr f2 [] w3 A3 c3 (zs ++ [z]) fp3) :
    CoSt w (w3.setCell ⟨b, 1, none⟩ (.slice A3 (n2 + 1) c3)) g b A1 n1 c1 xs f1 A3 (n2 + 1) c3 (zs ++ [z]) fp3 r bo kp f := by
  have hs := h.tch.size
  have hbl := h.bb.lt
  have n3 : ∀ i ∈ fp3, w.heap.size < i ∧ i ≠ b ∧ i ∉ f1 := fun i hi => by
    rcases ha.sub i hi with e | e | e
    · exact h.p2 i e
    · simp at e
    · have h1 := h.hb
      exact ⟨by omega, by omega, fun hm => by have := h.o1.lt i hm; omega⟩
  have b1 := (h.bb.tchF ha.tch (fun hm => (h.p2 _ hm).2.1 rfl)).set 1 (.slice A3 (n2 + 1) c3)
  have hb := h.hb
  refine ⟨?_, b1, ?_, ha.own.keep (fun i hi => Below.heap_setCell _ _ _ _ (fun e => (n3 i hi).2.1 e)), h.l1, by simp [h.l2], hb, h.p1, n3, ?_, h.sm⟩
  · exact (h.b0.tchF ha.tch (fun hm => by have := h.p2 _ hm; omega)).far (by show w.heap.size ≠ b; omega) _
  · refine (h.o1.keep fun i hi => ha.tch.block i (h.o1.lt i hi) (fun hm => (h.p2 i hm).2.2 hi)).keep (fun i hi => Below.heap_setCell _ _ _ _ (fun e => (h.p1 i hi).2 e))
  · exact (h.tch.step ha.tch fun i hi => .inr (by have := h.p2 i hi; omega)).step (TchF.put w3 ⟨b, 1, none⟩ _ (fp := [b]) (by simp)) (fun i hi => .inr (by simp at hi; omega))
/-- The box's cells turned, its rows as they were. -/
theorem CoSt.box (h : CoSt w wr g b A1 n1 c1 xs f1 A2 n2 c2 zs f2 r bo kp f) (j : Nat) (u : Value) {r' bo' kp' f' : Int} (he : (#[Value.slice A1 n1 c1, .slice A2 n2 c2, .int .i64 r, .int .i64 bo, .int .i64 kp, .int .i64 f] : Array Value).setIfInBounds j u = #[.slice A1 n1 c1, .slice A2 n2 c2, .int .i64 r', .int .i64 bo', .int .i64 kp', .int .i64 f']) :
    CoSt w (wr.setCell ⟨b, j, none⟩ u) g b A1 n1 c1 xs f1 A2 n2 c2 zs f2 r' bo' kp' f' := by
  have hb := h.hb
  refine ⟨?_, he ▸ h.bb.set j u, h.o1.keep (fun i hi => Below.heap_setCell _ _ _ _ (fun e => (h.p1 i hi).2 e)), h.o2.keep (fun i hi => Below.heap_setCell _ _ _ _ (fun e => (h.p2 i hi).2.1 e)), h.l1, h.l2, hb, h.p1, h.p2, h.tch.step (TchF.put wr ⟨b, j, none⟩ _ (fp := [b]) (by simp)) (fun i hi => .inr (by simp at hi; omega)), h.sm⟩
  exact h.b0.far (by show w.heap.size ≠ b; omega) _
/-- No elements. -/
theorem CoSt.noE (h : CoSt w wr g b A1 n1 c1 xs f1 A2 n2 c2 zs f2 r bo kp f) : CoSt w (wr.setCell ⟨b, 0, none⟩ (.slice none 0 0)) g b none 0 0 [] [] A2 n2 c2 zs f2 r bo kp f := by
  have hb := h.hb
  refine ⟨?_, h.bb.set 0 (.slice none 0 0), LO.none_, h.o2.keep (fun i hi => Below.heap_setCell _ _ _ _ (fun e => (h.p2 i hi).2.1 e)), rfl, h.l2, hb, by simp, fun i hi => ⟨(h.p2 i hi).1, (h.p2 i hi).2.1, by simp⟩, h.tch.step (TchF.put wr ⟨b, 0, none⟩ _ (fp := [b]) (by simp)) (fun i hi => .inr (by simp at hi; omega)), by simp⟩
  exact h.b0.far (by show w.heap.size ≠ b; omega) _
/-- A field of an element turned. -/
theorem CoSt.putE (h : CoSt w wr g b A1 n1 c1 xs f1 A2 n2 c2 zs f2 r bo kp f) (hg : g < w.heap.size) (k : Nat) (x : ElD) (hx : xs[k]? = some x) :
    ∃ gE, A1 = some ⟨gE, 0, none⟩ ∧ gE ≠ g ∧ gE ≠ b ∧ gE < wr.heap.size ∧ (∀ j u, (elV x)[j]? = some u → wr.cell? ⟨gE, k * 4 + j, none⟩ = some u) ∧ (∀ j, wr.frozen? ⟨gE, j, none⟩ = false) ∧
      ∀ (j : Nat) (u : Value) (x' : ElD), j < 4 → (elV x).set j u = elV x' → x'.1.length ≤ 16 → CoSt w (wr.setCell ⟨gE, k * 4 + j, none⟩ u) g b A1 n1 c1 (xs.set k x') f1 A2 n2 c2 zs f2 r bo kp f := by
  obtain ⟨gE, cs, ff, hA, ho, hf, hm, hl, hc, hz, hput⟩ := h.o1.put k x hx
  have h0 := kdEl.own_nil ho
  subst h0
  obtain ⟨ecs, hxl⟩ := kdEl.open_ (kdEl.own_rd ho)
  have e4 : kdEl.size = 4 := rfl
  rw [e4] at hc hput
  have hp := h.p1 gE hm
  subst ecs
  refine ⟨gE, hA, by omega, hp.2, hl, hc, hz, fun j u x' hj he hx' => ?_⟩
  have hown : kdEl.own wr ((elV x).set j u) x' [] := by rw [he]; exact kdEl.mkOwn wr x' (by omega)
  have hL := hput wr j u x' hj hown (TchF.refl _ _)
  have hb := h.hb
  refine ⟨h.b0.far (by show w.heap.size ≠ gE; omega) _, h.bb.far (by show b ≠ gE; omega) _, hL, h.o2.keep (fun i hi => Below.heap_setCell _ _ _ _ (fun e => (h.p2 i hi).2.2 (by rw [e]; exact hm))), by rw [List.length_set]; exact h.l1, h.l2, hb, h.p1, h.p2, h.tch.step (TchF.put wr ⟨gE, k * 4 + j, none⟩ _ (fp := [gE]) (by simp)) (fun i hi => .inr (by simp at hi; omega)), fun y hy => ?_⟩
  rcases List.mem_or_eq_of_mem_set hy with e | e
  · exact h.sm y e
  · rw [e]; exact hx'
/-- A limit turned. -/
theorem CoSt.putL (h : CoSt w wr g b A1 n1 c1 xs f1 A2 n2 c2 zs f2 r bo kp f) (hg : g < w.heap.size) (k : Nat) (hk : k < n2) :
    ∃ gL z, A2 = some ⟨gL, 0, none⟩ ∧ gL ≠ g ∧ gL ≠ b ∧ gL < wr.heap.size ∧ wr.cell? ⟨gL, k, none⟩ = some (.int .i64 z) ∧ (∀ j, wr.frozen? ⟨gL, j, none⟩ = false) ∧
      ∀ (u : Int), CoSt w (wr.setCell ⟨gL, k, none⟩ (.int .i64 u)) g b A1 n1 c1 xs f1 A2 n2 c2 (zs.set k u) f2 r bo kp f := by
  have hkz : k < zs.length := by have := h.l2; omega
  obtain ⟨gL, cs, ff, hA, ho, hf, hm, hl, hc, hz, hput⟩ := h.o2.put k zs[k] (List.getElem?_eq_getElem hkz)
  obtain ⟨rfl, rfl⟩ := ho
  have e1 : kdInt.size = 1 := rfl
  rw [e1] at hc hput
  have hp := h.p2 gL hm
  have c0 := hc 0 _ rfl
  rw [Nat.mul_one, Nat.add_zero] at c0
  refine ⟨gL, zs[k], hA, by omega, hp.2.1, hl, c0, hz, fun u => ?_⟩
  have hL := hput wr 0 (.int .i64 u) u (by omega) ⟨rfl, rfl⟩ (TchF.refl _ _)
  rw [Nat.mul_one, Nat.add_zero] at hL
  have hb := h.hb
  exact ⟨h.b0.far (by show w.heap.size ≠ gL; omega) _, h.bb.far (by show b ≠ gL; omega) _, h.o1.keep (fun i hi => Below.heap_setCell _ _ _ _ (fun (e : i = gL) => hp.2.2 (e ▸ hi))), hL, h.l1, by rw [List.length_set]; exact h.l2, hb, h.p1, h.p2, h.tch.step (TchF.put wr ⟨gL, k, none⟩ _ (fp := [gL]) (by simp)) (fun i hi => .inr (by simp at hi; omega)), h.sm⟩
end
end Go.Proofs.YtaoeomgehpdedaaGreat
