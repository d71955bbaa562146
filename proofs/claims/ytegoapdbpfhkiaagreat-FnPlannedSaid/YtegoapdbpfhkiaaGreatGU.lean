/- GU: EU, EV, EW, EX in one text. -/
import Derived.Test.YtegoapdbpfhkiaaGreatGL
import Derived.Test.YtegoapdbpfhkiaaGreatGZ
/- Draws of programmes. -/
namespace Go.Proofs.YtegoapdbpfhkiaaGreat
open Go.RowKit Go.Sort
set_option linter.unusedVariables false

section
variable {w0 w : World} {g M : Nat} {T : Typ} {A : Option Addr} {n c p : Nat}
theorem lateL_mem {P : ItD → Prop} (hP : ∀ (x : ItD) (m i : Nat), P x → P (lateD m i x)) {xs : List ItD} (h : ∀ x ∈ xs, P x) : ∀ x ∈ lateL xs, P x := by
  intro x hx
  unfold lateL at hx
  obtain ⟨i, hi, rfl⟩ := List.mem_map.1 hx
  rw [List.mem_range] at hi
  refine hP _ _ _ ?_
  rw [List.getD_eq_getElem?_getD, List.getElem?_eq_getElem hi]
  exact h _ (List.getElem_mem _)
/-- A copy of a list. -/
theorem cu.itOwnT (h : DS w0 g 64 M T w) (st : ST T (ksIt p) 51 A n c) :
    Calls Tryz.prog 119 #[.slice A n c] w fun e w' => ∃ T' A' c', e = .returned (.slice A' n c') ∧ DS w0 g 64 M T' w' ∧ Stp g T w T' w' ∧ ST T' (ksIt p) 51 A' n c' := by
  obtain ⟨xs, h1, rfl, h3, h4⟩ := h.items st
  have hl := (h.ts.len st).1
  refine (s.itOwn_any w A c w.heap.size xs h1 (Nat.le_refl _) h4).mono ?_
  rintro e w' ⟨A', c', fp, rfl, ho, hf, hx⟩
  obtain ⟨T', d, k, t⟩ := DS.impL (imp_list 51 0 rfl (imp_item p 64)) h hx ho hl h3 hf
  exact ⟨T', A', c', rfl, d, k, t⟩
/-- A list with its later half late. -/
theorem cu.pgLateT (h : DS w0 g 64 M T w) (st : ST T (ksIt p) 51 A n c) :
    Calls Tryz.prog 93 #[.slice A n c] w fun e w' => ∃ T' A' c', e = .returned (.slice A' n c') ∧ DS w0 g 64 M T' w' ∧ Stp g T w T' w' ∧ ST T' (ksIt p) 51 A' n c' := by
  obtain ⟨xs, h1, rfl, h3, h4⟩ := h.items st
  have hl := (h.ts.len st).1
  refine (s.pgLate_m w A c w.heap.size xs h1 (Nat.le_refl _) h4).mono ?_
  rintro e w' ⟨A', c', fp, rfl, ho, hf, hx⟩
  obtain ⟨T', d, k, t⟩ := DS.impL (imp_list 51 0 rfl (imp_item p 64)) h hx ho (by rw [lateL_len]; exact hl) (lateL_mem (fun x m i hx => ⟨hx.1, hx.2.1, trivial⟩) h3) hf
  rw [lateL_len] at t
  exact ⟨T', A', c', rfl, d, k, t⟩
end

theorem Blk.src {w : World} {x : Nat} {cs : Array Value} {t : TypeId} (h : Blk w x cs t) : ∀ j v, cs.toList[j]? = some v → w.cell? ⟨x, 0 + j, none⟩ = some v := fun j v hv => by
  rw [Nat.zero_add, h.cell j]
  simpa using hv
/-- A code and a list under way, and an item in box x. -/
structure PuU (w0 ws : World) (g M : Nat) (Ts T : Typ) (w : World) (b : Nat) (A1 : Option Addr) (n1 c1 : Nat) (A2 : Option Addr) (c2 : Nat) (r bo k f : Int) (A : Option Addr) (n c : Nat) (x : Nat) (B1 : Option Addr) (m1 d1 : Nat) (B2 : Option Addr) (m2 d2 : Nat) : Prop where
  cu : CoU w0 ws g M Ts T w b A1 n1 c1 A2 5 c2 r bo k f
  bi : Bx g T w x #[.slice B1 m1 d1, .slice B2 m2 d2, .bool false] 51
  t1 : ST T [.str] 9 B1 m1 d1
  t2 : ST T [.int] 3 B2 m2 d2
  l : ST T (ksIt 1) 51 A n c
  hx : b < x
section
variable {w0 ws w w' : World} {g M M' b n1 c1 c2 n c x m1 d1 m2 d2 : Nat} {Ts T T' : Typ} {A1 A2 A B1 B2 : Option Addr} {r bo k f : Int}
theorem PuU.stp (h : PuU w0 ws g M Ts T w b A1 n1 c1 A2 c2 r bo k f A n c x B1 m1 d1 B2 m2 d2) (s : Stp g T w T' w') (d : DS w0 g 64 M' T' w') : PuU w0 ws g M' Ts T' w' b A1 n1 c1 A2 c2 r bo k f A n c x B1 m1 d1 B2 m2 d2 :=
  ⟨h.cu.stp s d, h.bi.stp s, h.t1.mono s.le, h.t2.mono s.le, h.l.mono s.le, h.hx⟩
theorem PuU.ext (h : PuU w0 ws g M Ts T w b A1 n1 c1 A2 c2 r bo k f A n c x B1 m1 d1 B2 m2 d2) (s : Ext w w') : PuU w0 ws g M Ts T w' b A1 n1 c1 A2 c2 r bo k f A n c x B1 m1 d1 B2 m2 d2 := h.stp (Stp.of_ext s) (h.cu.df.ds.ext s)
theorem PuU.step {wx : World} (h : PuU w0 ws g M Ts T w b A1 n1 c1 A2 c2 r bo k f A n c x B1 m1 d1 B2 m2 d2) (y : Ext w wx) (z : TchF [g] wx w') (cc : Cur w' g M') : PuU w0 ws g M' Ts T w' b A1 n1 c1 A2 c2 r bo k f A n c x B1 m1 d1 B2 m2 d2 := (h.ext y).stp (Stp.of_cur z) ((h.ext y).cu.df.ds.curs z cc)
theorem PuU.more (h : PuU w0 ws g M Ts T w b A1 n1 c1 A2 c2 r bo k f A n c x B1 m1 d1 B2 m2 d2) (hm : M ≤ M') : PuU w0 ws g M' Ts T w b A1 n1 c1 A2 c2 r bo k f A n c x B1 m1 d1 B2 m2 d2 := ⟨h.cu.more hm, h.bi, h.t1, h.t2, h.l, h.hx⟩
theorem PuU.cN (h : PuU w0 ws g M Ts T w b A1 n1 c1 A2 c2 r bo k f A n c x B1 m1 d1 B2 m2 d2) : w.cell? ⟨x, 0, none⟩ = some (.slice B1 m1 d1) := h.bi.cell 0
theorem PuU.cM (h : PuU w0 ws g M Ts T w b A1 n1 c1 A2 c2 r bo k f A n c x B1 m1 d1 B2 m2 d2) : w.cell? ⟨x, 1, none⟩ = some (.slice B2 m2 d2) := h.bi.cell 1
theorem PuU.free (h : PuU w0 ws g M Ts T w b A1 n1 c1 A2 c2 r bo k f A n c x B1 m1 d1 B2 m2 d2) (j : Nat) : w.frozen? ⟨x, j, none⟩ = false := h.bi.free j
theorem PuU.lt (h : PuU w0 ws g M Ts T w b A1 n1 c1 A2 c2 r bo k f A n c x B1 m1 d1 B2 m2 d2) : x < w.heap.size := h.bi.lt
theorem PuU.put (h : PuU w0 ws g M Ts T w b A1 n1 c1 A2 c2 r bo k f A n c x B1 m1 d1 B2 m2 d2) (j : Nat) (u : Value) : CoU w0 ws g M Ts T (w.setCell ⟨x, j, none⟩ u) b A1 n1 c1 A2 5 c2 r bo k f := by
  have hb := h.cu.hb
  have hx := h.hx
  exact ⟨h.cu.df.bx h.bi (by omega) _ _, h.cu.b0.far (by show ws.heap.size ≠ x; omega) _, h.cu.bb.far (by show b ≠ x; omega) _, h.cu.s1, h.cu.s2, hb⟩
/-- A name (a mark) more. -/
theorem PuU.appN {A3 : Option Addr} {n3 c3 : Nat} (h : PuU w0 ws g M Ts T w b A1 n1 c1 A2 c2 r bo k f A n c x B1 m1 d1 B2 m2 d2) (a : ApT w0.heap.size 64 T [.str] 9 w n3 w' A3 c3 T') :
    PuU w0 ws g M Ts T' w' b A1 n1 c1 A2 c2 r bo k f A n c x B1 m1 d1 B2 m2 d2 ∧ PuU w0 ws g M Ts T' (w'.setCell ⟨x, 0, none⟩ (.slice A3 n3 c3)) b A1 n1 c1 A2 c2 r bo k f A n c x A3 n3 c3 B2 m2 d2 := by
  obtain ⟨d, s, t⟩ := h.cu.df.ds.app a
  have h2 := h.stp s d
  exact ⟨h2, h2.put 0 _, h2.bi.set 0 _, t, h2.t2, h2.l, h.hx⟩
theorem PuU.appM {A3 : Option Addr} {n3 c3 : Nat} (h : PuU w0 ws g M Ts T w b A1 n1 c1 A2 c2 r bo k f A n c x B1 m1 d1 B2 m2 d2) (a : ApT w0.heap.size 64 T [.int] 3 w n3 w' A3 c3 T') :
    PuU w0 ws g M Ts T' w' b A1 n1 c1 A2 c2 r bo k f A n c x B1 m1 d1 B2 m2 d2 ∧ PuU w0 ws g M Ts T' (w'.setCell ⟨x, 1, none⟩ (.slice A3 n3 c3)) b A1 n1 c1 A2 c2 r bo k f A n c x B1 m1 d1 A3 n3 c3 := by
  obtain ⟨d, s, t⟩ := h.cu.df.ds.app a
  have h2 := h.stp s d
  exact ⟨h2, h2.put 1 _, h2.bi.set 1 _, h2.t1, t, h2.l, h.hx⟩
end

end Go.Proofs.YtegoapdbpfhkiaaGreat

/- Draws of full programmes. -/
namespace Go.Proofs.YtegoapdbpfhkiaaGreat
open Go.RowKit Go.Sort
set_option linter.unusedVariables false

theorem DS.lit1 {w0 w : World} {g M : Nat} {T : Typ} (h : DS w0 g 64 M T w) {k : VK} {v : Value} (hv : VT T k v) (e : TypeId) :
    ∃ T', DS w0 g 64 M T' (w.alloc (.cells #[v] e)) ∧ Stp g T w T' (w.alloc (.cells #[v] e)) ∧ ST T' [k] e (some ⟨w.heap.size, 0, none⟩) 1 1 := by
  refine h.lit #[v] 1 e [k] (by decide) (by decide) rfl ?_
  have h1 := (E1.one hv).el
  exact h1.congr (fun q _ => by simp)

end Go.Proofs.YtegoapdbpfhkiaaGreat

/- Draws of programmes: any programme. -/
namespace Go.Proofs.YtegoapdbpfhkiaaGreat
open Go.RowKit Go.Sort
set_option linter.unusedVariables false

section
variable {w0 ws w w' : World} {g M M' b : Nat} {Ts T T' : Typ} {A1 : Option Addr} {n1 c1 : Nat} {A2 : Option Addr} {n2 c2 : Nat} {r bo k f : Int}
/-- A cell of a typed row stored. -/
theorem CoU.putT (h : CoU w0 ws g M Ts T w b A1 n1 c1 A2 n2 c2 r bo k f) {x m c i j : Nat} {ks : List VK} {e : TypeId} {kd : VK} {u : Value} (hT : T x = some (ks, e, m, c)) (hj : ks[j]? = some kd) (hu : VT T kd u) : CoU w0 ws g M Ts T (w.setCell ⟨x, i * ks.length + j, none⟩ u) b A1 n1 c1 A2 n2 c2 r bo k f := by
  have hn : T x ≠ none := by rw [hT]; simp
  exact ⟨h.df.store hT (i := i) hj hu, h.b0.store hn _ _, h.bb.store hn _ _, h.s1, h.s2, h.hb⟩
theorem CoU.put1 (h : CoU w0 ws g M Ts T w b A1 n1 c1 A2 n2 c2 r bo k f) {x m c : Nat} {e : TypeId} {kd : VK} {u : Value} (hT : T x = some ([kd], e, m, c)) (i : Nat) (hu : VT T kd u) : CoU w0 ws g M Ts T (w.setCell ⟨x, i, none⟩ u) b A1 n1 c1 A2 n2 c2 r bo k f := by
  have d := h.putT hT (i := i) (j := 0) rfl hu
  have e2 : i * ([kd] : List VK).length + 0 = i := by simp
  rw [e2] at d
  exact d
end
theorem cell_step {w wx w' : World} {g : Nat} {p : Addr} {v : Value} (h : w.cell? p = some v) (y : Ext w wx) (z : TchF [g] wx w') (hp : p.block < w.heap.size) (hg : p.block ≠ g) : w'.cell? p = some v := by
  have h1 := y.cell hp
  rw [z.cell (Nat.lt_of_lt_of_le hp y.size) (by simpa using hg), h1, h]
/-- One row alone. -/
def Typ.only (x : Nat) : Typ := Typ.put (fun _ => none) x ([.str], 9, 24, 24)
theorem cu.namesX {w0 w : World} {g M : Nat} {T : Typ} (h : DS w0 g 64 M T w) :
    Calls Tryz.prog 79 #[] w fun e w' => ∃ x : Nat, e = .returned (.slice (some ⟨x, 0, none⟩) 24 24) ∧ Ext w w' ∧ w.heap.size ≤ x ∧ DS w0 g 64 M (Typ.only x) w' ∧ ST (Typ.only x) [.str] 9 (some ⟨x, 0, none⟩) 24 24 := by
  refine (cu.names_m w).mono ?_
  rintro e w' ⟨x, vs, rfl, hb, hl, hv, hx, hk⟩
  have d := h.ext hk
  have t0 : TS w0.heap.size 64 (fun _ => none) w' := ⟨by simp, by simp⟩
  obtain ⟨t2, _⟩ := t0.add (ks := [.str]) (m := 24) (c := 24) rfl (by have := h.size; omega) hb (by decide) (by decide) (by decide) (by simpa using hl) (fun i hi j k hk => by
    obtain rfl : j = 0 := by have := (List.getElem?_eq_some_iff.1 hk).1; simp at this; omega
    simp at hk
    subst hk
    have hi2 : i < vs.length := by omega
    exact ⟨vs[i], by simp [hi2], hv _ (List.getElem_mem hi2)⟩)
  exact ⟨x, rfl, hk, hx, ⟨t2, d.cu, d.tch, d.hg⟩, .inr ⟨x, 24, rfl, Typ.put_same _ _ _, Nat.le_refl _⟩⟩
theorem ap_ext {lo L x n' c' : Nat} {ks : List VK} {e : TypeId} {wr w w' : World} {A' : Option Addr} {T' : Typ} (ap : ApT lo L (Typ.only x) ks e w n' w' A' c' T') (X : Ext wr w) (hx : wr.heap.size ≤ x) : Ext wr w' := by
  rcases ap.fp with k | ⟨b, hb, k⟩
  · exact X.tchF k (by simp)
  · refine X.tchF k (fun i hi => ?_)
    simp at hi
    subst hi
    by_cases e : i = x
    · subst e; exact hx
    · exact absurd (Typ.put_other e) hb
theorem EL.ofList {T : Typ} {k : VK} (l : List Value) (h : ∀ v ∈ l, VT T k v) : EL T [k] l.length (fun q => l[q]?) := fun i hi j k' hk => by
  obtain rfl : j = 0 := by have := (List.getElem?_eq_some_iff.1 hk).1; simp at this; omega
  simp at hk
  subst hk
  exact ⟨l[i], by simp [hi], h _ (List.getElem_mem hi)⟩
/-- The cells of a typed row's first elements. -/
theorem TS.cells {lo L : Nat} {T : Typ} {w : World} {ks : List VK} {e : TypeId} {x n c m : Nat} (h : TS lo L T w) (s : ST T ks e (some ⟨x, 0, none⟩) n c) (hm : m ≤ n) (h0 : 0 < m) : ∃ news : List Value, news.length = m * ks.length ∧ (∀ j u, news[j]? = some u → w.cell? ⟨x, 0 + j, none⟩ = some u) ∧ EL T ks m (fun q => news[q]?) := by
  obtain ⟨b, m0, e1, hb, hn⟩ := s.pos (by omega)
  obtain rfl : x = b := congrArg Addr.block (Option.some.inj e1)
  obtain ⟨h1, h2, h3, cur, h4, h5, h6⟩ := h.row x ks e m0 c hb
  have hle : m * ks.length ≤ c * ks.length := Nat.mul_le_mul_right _ (by omega)
  refine ⟨cur.toList.take (m * ks.length), by rw [List.length_take]; simp only [Array.length_toList]; omega, fun j u hu => ?_, ?_⟩
  · rw [Nat.zero_add, cell_of_row w x j cur e (0, 0) h4]
    rw [List.getElem?_take] at hu
    split at hu
    · simpa using hu
    · cases hu
  · have hs : EL T ks m (fun q => cur[q]?) := fun i hi => h6 i (by omega)
    exact hs.congr (fun q hq => by
      show (cur.toList.take _)[q]? = _
      rw [List.getElem?_take, if_pos hq]
      simp)
abbrev AnyPgPost (w0 w : World) (g M : Nat) (T : Typ) (e : Ending) (w' : World) : Prop := ∃ (T' : Typ) (A1 : Option Addr) (n1 c1 : Nat) (A2 : Option Addr) (n2 c2 : Nat) (r bo k f : Int) (A : Option Addr) (n c p : Nat), e = .returned (.tuple #[.agg #[.slice A1 n1 c1, .slice A2 n2 c2, .int .i64 r, .int .i64 bo, .int .i64 k, .int .i64 f], .slice A n c]) ∧ n1 ≤ 25 ∧ n2 ≤ 6 ∧ n ≤ 15 ∧ DF w0 w g 64 M T T' w' ∧ ST T' ksEl 47 A1 n1 c1 ∧ ST T' [.int] 3 A2 n2 c2 ∧ ST T' (ksIt p) 51 A n c

end Go.Proofs.YtegoapdbpfhkiaaGreat

/- Draws for the laws on programmes. -/
namespace Go.Proofs.YtegoapdbpfhkiaaGreat
open Go.RowKit Go.Sort
set_option linter.unusedVariables false

theorem any_jd {w0 w w' : World} {g M : Nat} {T : Typ} {e : Ending} (h : AnyPgPost w0 w g M T e w') : JdPost w0 g e w' := by
  obtain ⟨T', A1, n1, c1, A2, n2, c2, r, bo, k, f, A, n, c, p, rfl, -, -, -, d, s1, s2, s3⟩ := h
  exact ⟨A1, n1, c1, A2, n2, c2, r, bo, k, f, A, n, c, rfl, d.ds.ts.code s1 s2 r bo k f, (d.ds.ts.row_it s3).ls d.ds.ts, d.ds.tch⟩
/-- A code, a list and the result's box under way in a draw. -/
structure RgU (W0 : World) (g M : Nat) (T : Typ) (w : World) (b z0 : Nat) (A1 : Option Addr) (n1 c1 : Nat) (A2 : Option Addr) (n2 c2 : Nat) (r bo k f : Int) (A : Option Addr) (n c p : Nat) : Prop where
  df : DF W0 W0 g 64 M (fun _ => none) T w
  bb : Bx g T w b #[.slice A1 n1 c1, .slice A2 n2 c2, .int .i64 r, .int .i64 bo, .int .i64 k, .int .i64 f] 26
  bz : Blk w z0 zC 26
  zl : z0 < g
  s1 : ST T ksEl 47 A1 n1 c1
  s2 : ST T [.int] 3 A2 n2 c2
  l : ST T (ksIt p) 51 A n c
section
variable {W0 w w' : World} {g M M' b z0 n1 c1 n2 c2 n c p : Nat} {T T' : Typ} {A1 A2 A : Option Addr} {r bo k f : Int}
theorem RgU.stp (h : RgU W0 g M T w b z0 A1 n1 c1 A2 n2 c2 r bo k f A n c p) (s : Stp g T w T' w') (d : DS W0 g 64 M' T' w') : RgU W0 g M' T' w' b z0 A1 n1 c1 A2 n2 c2 r bo k f A n c p :=
  ⟨h.df.stp s d, h.bb.stp s, h.bz.kt s.kt (by have := h.zl; omega) (h.df.ds.ts.none_lo (by have := h.zl; have := h.df.ds.hg; omega)), h.zl, h.s1.mono s.le, h.s2.mono s.le, h.l.mono s.le⟩
theorem RgU.ext (h : RgU W0 g M T w b z0 A1 n1 c1 A2 n2 c2 r bo k f A n c p) (x : Ext w w') : RgU W0 g M T w' b z0 A1 n1 c1 A2 n2 c2 r bo k f A n c p := h.stp (Stp.of_ext x) (h.df.ds.ext x)
theorem RgU.step {wx : World} (h : RgU W0 g M T w b z0 A1 n1 c1 A2 n2 c2 r bo k f A n c p) (x : Ext w wx) (y : TchF [g] wx w') (z : Cur w' g M') : RgU W0 g M' T w' b z0 A1 n1 c1 A2 n2 c2 r bo k f A n c p := (h.ext x).stp (Stp.of_cur y) ((h.ext x).df.ds.curs y z)
theorem RgU.more (h : RgU W0 g M T w b z0 A1 n1 c1 A2 n2 c2 r bo k f A n c p) (hm : M ≤ M') : RgU W0 g M' T w b z0 A1 n1 c1 A2 n2 c2 r bo k f A n c p := ⟨h.df.more hm, h.bb, h.bz, h.zl, h.s1, h.s2, h.l⟩
theorem RgU.out (h : RgU W0 g M T w b z0 A1 n1 c1 A2 n2 c2 r bo k f A n c p) (w0 : World) (hz : z0 = w0.heap.size) (X : Ext w0 W0) (u0 u1 u2 u3 u4 u5 : Value) : CoR w0.heap.size (set6 w z0 u0 u1 u2 u3 u4 u5) (.agg #[.slice A1 n1 c1, .slice A2 n2 c2, .int .i64 r, .int .i64 bo, .int .i64 k, .int .i64 f]) ∧ LsR w0.heap.size (set6 w z0 u0 u1 u2 u3 u4 u5) A n c ∧ Ext w0 (set6 w z0 u0 u1 u2 u3 u4 u5) := by
  have hg := h.df.ds.hg
  have zl := h.zl
  have hX := X.size
  have sn := Since.put6 (lo := W0.heap.size) w (show z0 < W0.heap.size by omega) u0 u1 u2 u3 u4 u5
  exact ⟨((h.df.ds.ts.code h.s1 h.s2 r bo k f).since sn).less hX, (((h.df.ds.ts.row_it h.l).ls h.df.ds.ts).since sn).less hX, (h.df.ds.tch.ext0 X (by omega)).tchF (set6_tch _ _ _ _ _ _ _ _) (by simp; omega)⟩
end
abbrev RGPost (w : World) (e : Ending) (w' : World) : Prop := ∃ (A1 : Option Addr) (n1 c1 : Nat) (A2 : Option Addr) (n2 c2 : Nat) (r bo k f : Int) (A : Option Addr) (n c : Nat) (z : Int) (y : List UInt8), e = .returned (.tuple #[.agg #[.slice A1 n1 c1, .slice A2 n2 c2, .int .i64 r, .int .i64 bo, .int .i64 k, .int .i64 f], .slice A n c, .int .i64 z, .string (bs y)]) ∧ y.length ≤ 16 ∧ InR z ∧
  CoR w.heap.size w' (.agg #[.slice A1 n1 c1, .slice A2 n2 c2, .int .i64 r, .int .i64 bo, .int .i64 k, .int .i64 f]) ∧ LsR w.heap.size w' A n c ∧ Ext w w'
end Go.Proofs.YtegoapdbpfhkiaaGreat
