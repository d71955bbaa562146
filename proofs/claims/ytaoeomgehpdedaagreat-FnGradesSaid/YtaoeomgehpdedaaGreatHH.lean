/- What the law on grades calls, over what was drawn. -/
import Derived.Test.YtaoeomgehpdedaaGreatHF
import Derived.Test.YtaoeomgehpdedaaGreatHG
namespace Go.Proofs.YtaoeomgehpdedaaGreat
open Go.RowKit Go.Sort
set_option linter.unusedVariables false

/-- A code and a list, read. -/
structure Dl (w1 : World) (v : Value) (A : Option Addr) (c : Nat) (d : CoD) (xs : List ItD) : Prop where
  rd : kC.rd w1 v d
  ok : kC.ok d
  lr : LR kdItem w1 w1.heap.size A c xs
  wt : wtL kdItem xs ≤ 1048576
theorem Dl.ext {w1 w2 : World} {v : Value} {A : Option Addr} {c : Nat} {d : CoD} {xs : List ItD} (h : Dl w1 v A c d xs) (k : Ext w1 w2) : Dl w2 v A c d xs :=
  ⟨kC.rd_ext h.rd k, h.ok, (h.lr.ext k (Nat.le_refl _)).more k.size, h.wt⟩
theorem dl_of {lo : Nat} {w : World} {v : Value} {A : Option Addr} {n c : Nat} (hc : CoR lo w v) (hl : LsR lo w A n c) : ∃ d xs, Dl w v A c d xs ∧ xs.length = n := by
  obtain ⟨d, h1, h2⟩ := hc
  obtain ⟨xs, h3, h4, _, h5⟩ := hl
  exact ⟨d, xs, ⟨h2 w (Since.refl _ _), h1, h5 w (Since.refl _ _), h4⟩, h3⟩
theorem Dl.kit {w : World} {v : Value} {A : Option Addr} {c : Nat} {d : CoD} {xs : List ItD} (h : Dl w v A c d xs) : kIt.rd w (.slice A xs.length c) xs := ⟨_, rfl, ⟨A, c, rfl, h.lr⟩⟩
/-- A code and an item, read. -/
structure Du (w1 : World) (v v' : Value) (d : CoD) (x : ItD) : Prop where
  rd : kC.rd w1 v d
  ok : kC.ok d
  ri : kIm.rd w1 v' x
  oi : kIm.ok x
theorem Du.ext {w1 w2 : World} {v v' : Value} {d : CoD} {x : ItD} (h : Du w1 v v' d x) (k : Ext w1 w2) : Du w2 v v' d x := ⟨kC.rd_ext h.rd k, h.ok, kIm.rd_ext h.ri k, h.oi⟩
theorem du_of {lo : Nat} {w : World} {v v' : Value} (hc : CoR lo w v) (hi : ItR lo w v') : ∃ d x, Du w v v' d x := by
  obtain ⟨d, h1, h2⟩ := hc
  obtain ⟨x, h3, h4⟩ := hi
  exact ⟨d, x, ⟨h2 w (Since.refl _ _), h1, h4 w (Since.refl _ _), h3⟩⟩
section
variable {w : World} {v v' vm : Value} {A : Option Addr} {c N : Nat} {d : CoD} {xs : List ItD} {m : MD} {J : Bool} {x : ItD}
theorem Dj.iCol (h : Dj w v A c vm d xs m) (hN : xs.length = N) {q : Int} (hq : InR q) {C : List Int} (hC : (columnF d xs m q).1 = C) (hJ : (columnF d xs m q).2 = J) : Calls Tryz.prog 25 #[v, .slice A N c, vm, .int .i64 q] w fun e w' => ∃ A' n' c', e = .returned (.tuple #[.slice A' n' c', .bool J]) ∧ C.length = n' ∧ OwnI 3 w' w.heap.size A' n' c' C ∧ Ext w w' := by
  subst hN hJ hC
  refine (i.ColumnOf_law w v _ vm d xs m q h.rd h.ok h.kit h.wt h.rm h.om hq).mono ?_
  rintro e w' ⟨v0, rfl, hf, hok, hx⟩
  obtain ⟨A', c', rfl, hf1⟩ := hf
  exact ⟨A', _, c', rfl, rfl, hf1.1, hx⟩
theorem Dl.iLeast (h : Dl w v A c d xs) (hN : xs.length = N) {k pts : Int} (hk : InR k) (hp : InR pts) : Calls Tryz.prog 28 #[v, .slice A N c, .int .i64 k, .int .i64 pts] w fun e w' => e = .returned (.tuple #[.int .i64 (leastF d xs k pts).1, .bool (leastF d xs k pts).2]) ∧ Ext w w' := by
  subst hN
  exact i.LeastGrade_law w v _ d xs k pts h.rd h.ok h.kit h.wt hk hp
theorem Du.iUnit (h : Du w v v' d x) : Calls Tryz.prog 20 #[v, v'] w fun e w' => e = .returned (.tuple #[.int .i64 (unitLaw d x).1, .bool (unitLaw d x).2]) ∧ Ext w w' :=
  i.UnitOf_law w v v' d x h.rd h.ok h.ri h.oi

theorem Dj.sCol (h : Dj w v A c vm d xs m) (hN : xs.length = N) {q : Int} (hq : InR q) {C : List Int} (hC : (columnF d xs m q).1 = C) (hJ : (columnF d xs m q).2 = J) : Calls Tryz.prog 26 #[v, .slice A N c, vm, .int .i64 q] w fun e w' => ∃ A' n' c', e = .returned (.tuple #[.slice A' n' c', .bool J]) ∧ C.length = n' ∧ OwnI 3 w' w.heap.size A' n' c' C ∧ Ext w w' := by
  subst hN hJ hC
  refine (s.ColumnOf_law w v _ vm d xs m q h.rd h.ok h.kit h.wt h.rm h.om hq).mono ?_
  rintro e w' ⟨v0, rfl, hf, hok, hx⟩
  obtain ⟨A', c', rfl, hf1⟩ := hf
  exact ⟨A', _, c', rfl, rfl, hf1.1, hx⟩
theorem Dl.sLeast (h : Dl w v A c d xs) (hN : xs.length = N) {k pts : Int} (hk : InR k) (hp : InR pts) : Calls Tryz.prog 29 #[v, .slice A N c, .int .i64 k, .int .i64 pts] w fun e w' => e = .returned (.tuple #[.int .i64 (leastF d xs k pts).1, .bool (leastF d xs k pts).2]) ∧ Ext w w' := by
  subst hN
  exact s.LeastGrade_law w v _ d xs k pts h.rd h.ok h.kit h.wt hk hp
theorem Du.sUnit (h : Du w v v' d x) : Calls Tryz.prog 21 #[v, v'] w fun e w' => e = .returned (.tuple #[.int .i64 (unitLaw d x).1, .bool (unitLaw d x).2]) ∧ Ext w w' :=
  s.UnitOf_law w v v' d x h.rd h.ok h.ri h.oi
theorem Dj.sJudges (h : Dj w v A c vm d xs m) : Calls Tryz.prog 33 #[vm] w fun e w' => e = .returned (.tuple #[.int .i64 (judgesOfF m).1, .bool (judgesOfF m).2]) ∧ Ext w w' :=
  s.JudgesOf_law w vm m h.rm h.om
theorem Dl.iBase (h : Dl w v A c d xs) (hN : xs.length = N) (hg : goodB d xs = true) {k : Nat} (hk : k < N) : Calls Tryz.prog 18 #[v, .slice A N c, .int .i64 k] w fun e w' => e = .returned (.tuple #[.int .i64 (baseF d xs k), .bool true]) ∧ Ext w w' := by
  subst hN
  exact i.ItemBase_v w v d A c xs k h.rd h.ok h.lr h.wt hg hk
end
theorem NumJ.of_own {e : TypeId} {w : World} {lo n c : Nat} {A : Option Addr} {zs : List Int} (o : OwnI e w lo A n c zs) : NumJ w A n c zs := ⟨o.sl, o.capn, o.capm⟩
def Apt (A A2 : Option Addr) : Prop := ∀ p q, A = some p → A2 = some q → p.block ≠ q.block
/-- Numbers of one's own, low and high, beside all that was at hand. -/
structure Enc (B w : World) (Al Ah : Option Addr) (n cl ch : Nat) (zl zh : List Int) : Prop where
  ol : OwnI 3 w B.heap.size Al n cl zl
  oh : OwnI 3 w B.heap.size Ah n ch zh
  ne : Apt Al Ah
  ext : Ext B w
/-- The same beside a column. -/
structure EncC (B w : World) (Al Ah : Option Addr) (n cl ch : Nat) (zl zh : List Int) (lc : Nat) (Ac : Option Addr) (cc : Nat) (C : List Int) : Prop where
  en : Enc B w Al Ah n cl ch zl zh
  oc : OwnI 3 w lc Ac n cc C
  nl : Apt Al Ac
  nh : Apt Ah Ac
theorem Enc.ext' {B w w' : World} {Al Ah : Option Addr} {n cl ch : Nat} {zl zh : List Int} (h : Enc B w Al Ah n cl ch zl zh) (x : Ext w w') : Enc B w' Al Ah n cl ch zl zh :=
  ⟨h.ol.below x (Nat.le_refl _), h.oh.below x (Nat.le_refl _), h.ne, h.ext.trans x⟩
theorem Enc.col {B w w' : World} {Al Ah Ac : Option Addr} {n cl ch cc : Nat} {zl zh C : List Int} (h : Enc B w Al Ah n cl ch zl zh) (x : Ext w w') (o : OwnI 3 w' w.heap.size Ac n cc C) : EncC B w' Al Ah n cl ch zl zh w.heap.size Ac cc C :=
  ⟨h.ext' x, o, fun p q hp hq => by have := Own.lt h.ol p hp; have := Own.fromLo o q hq; omega, fun p q hp hq => by have := Own.lt h.oh p hp; have := Own.fromLo o q hq; omega⟩
theorem EncC.setL {B w : World} {gl : Nat} {Ah Ac : Option Addr} {n cl ch lc cc : Nat} {zl zh C : List Int} (h : EncC B w (some ⟨gl, 0, none⟩) Ah n cl ch zl zh lc Ac cc C) (i : Nat) (y : Int) : EncC B (w.setCell ⟨gl, i, none⟩ (.int .i64 y)) (some ⟨gl, 0, none⟩) Ah n cl ch (zl.set i y) zh lc Ac cc C :=
  ⟨⟨h.en.ol.set i y, Own.far (p := ⟨gl, i, none⟩) h.en.oh (fun a ha => fun e => h.en.ne ⟨gl, 0, none⟩ a rfl ha e.symm) _, h.en.ne, Below.setCell (p := ⟨gl, i, none⟩) h.en.ext (Own.fromLo h.en.ol ⟨gl, 0, none⟩ rfl) _⟩, Own.far (p := ⟨gl, i, none⟩) h.oc (fun a ha => fun e => h.nl ⟨gl, 0, none⟩ a rfl ha e.symm) _, h.nl, h.nh⟩
theorem EncC.setH {B w : World} {gh : Nat} {Al Ac : Option Addr} {n cl ch lc cc : Nat} {zl zh C : List Int} (h : EncC B w Al (some ⟨gh, 0, none⟩) n cl ch zl zh lc Ac cc C) (i : Nat) (y : Int) : EncC B (w.setCell ⟨gh, i, none⟩ (.int .i64 y)) Al (some ⟨gh, 0, none⟩) n cl ch zl (zh.set i y) lc Ac cc C :=
  ⟨⟨Own.far (p := ⟨gh, i, none⟩) h.en.ol (fun a ha => h.en.ne a ⟨gh, 0, none⟩ ha rfl) _, h.en.oh.set i y, h.en.ne, Below.setCell (p := ⟨gh, i, none⟩) h.en.ext (Own.fromLo h.en.oh ⟨gh, 0, none⟩ rfl) _⟩, Own.far (p := ⟨gh, i, none⟩) h.oc (fun a ha => fun e => h.nh ⟨gh, 0, none⟩ a rfl ha e.symm) _, h.nl, h.nh⟩
theorem getD_setZ (zs : List Int) (i j : Nat) (y : Int) (hj : j < zs.length) : (zs.set j y).getD i 0 = if i = j then y else zs.getD i 0 := by
  by_cases h : i = j
  · subst h; simp [List.getD_eq_getElem?_getD, hj]
  · rw [if_neg h, List.getD_eq_getElem?_getD, List.getElem?_set_ne (Ne.symm h), ← List.getD_eq_getElem?_getD]
/-- The columns of the judges below J, and of J itself below place k, lie between low and high. -/
def ColsP (d : CoD) (xs : List ItD) (m : MD) (n J k : Nat) (zl zh : List Int) : Prop := ∀ j i, i < n → (j < J ∨ (j = J ∧ i < k)) → zl.getD i 0 ≤ colAt d xs m j i ∧ colAt d xs m j i ≤ zh.getD i 0
theorem ColsP.none (d : CoD) (xs : List ItD) (m : MD) (n : Nat) (zl zh : List Int) : ColsP d xs m n 0 0 zl zh := fun j i _ h => by omega
theorem ColsP.next {d : CoD} {xs : List ItD} {m : MD} {n J : Nat} {zl zh : List Int} (h : ColsP d xs m n J n zl zh) : ColsP d xs m n (J + 1) 0 zl zh := fun j i hi hj => h j i hi (by omega)
theorem ColsP.setL {d : CoD} {xs : List ItD} {m : MD} {n J k : Nat} {zl zh : List Int} (h : ColsP d xs m n J k zl zh) {y : Int} (hl : k < zl.length) (hy : y < zl.getD k 0) : ColsP d xs m n J k (zl.set k y) zh := fun j i hi hj => by
  have := h j i hi hj
  rw [getD_setZ zl i k y hl]
  split
  · next e => subst e; omega
  · exact this
theorem ColsP.setH {d : CoD} {xs : List ItD} {m : MD} {n J k : Nat} {zl zh : List Int} (h : ColsP d xs m n J k zl zh) {y : Int} (hl : k < zh.length) (hy : zh.getD k 0 < y) : ColsP d xs m n J k zl (zh.set k y) := fun j i hi hj => by
  have := h j i hi hj
  rw [getD_setZ zh i k y hl]
  split
  · next e => subst e; omega
  · exact this
theorem ColsP.put {d : CoD} {xs : List ItD} {m : MD} {n J k : Nat} {zl zh : List Int} (h : ColsP d xs m n J k zl zh) (h1 : zl.getD k 0 ≤ colAt d xs m J k) (h2 : colAt d xs m J k ≤ zh.getD k 0) : ColsP d xs m n J (k + 1) zl zh := fun j i hi hj => by
  by_cases e : j = J ∧ i = k
  · obtain ⟨rfl, rfl⟩ := e; exact ⟨h1, h2⟩
  · exact h j i hi (by omega)
/-- What the law asks of a score. -/
theorem cols_score {d : CoD} {xs : List ItD} {m : MD} (hj : judgedB d xs m = true) {zl zh : List Int} (h : ColsP d xs m xs.length (judges m) 0 zl zh) {i : Nat} (hi : i < xs.length) : ¬ (scS d xs m).getD i 0 < zl.getD i 0 ∧ ¬ zh.getD i 0 < (scS d xs m).getD i 0 := by
  obtain ⟨j1, j2, h1, h2, h3, h4⟩ := score_cols (jOk hj) hi
  have a1 := h j1 i hi (.inl h1)
  have a2 := h j2 i hi (.inl h2)
  rw [(scS_yes hj).1, scoresN_at d xs m hi]
  exact ⟨by omega, by omega⟩
end Go.Proofs.YtaoeomgehpdedaaGreat
