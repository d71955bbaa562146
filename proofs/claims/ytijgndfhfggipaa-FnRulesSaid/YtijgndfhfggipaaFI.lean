/- What was drawn, read; what the law on rules calls, over it. -/
import Derived.Test.YtijgndfhfggipaaGU
import Derived.Test.YtijgndfhfggipaaES
import Derived.Test.YtijgndfhfggipaaEY
import Derived.Test.YtijgndfhfggipaaFC
import Derived.Test.YtijgndfhfggipaaFF
import Derived.Test.YtijgndfhfggipaaFG
import Derived.Test.YtijgndfhfggipaaFH
namespace Go.Proofs.Ytijgndfhfggipaa
open Go.RowKit Go.Sort
set_option linter.unusedVariables false

/-- A code and a list of items, read in every later world. -/
structure Dr (w1 : World) (v : Value) (A : Option Addr) (c : Nat) (d : CoD) (xs : List ItD) : Prop where
  rd : kC.rd w1 v d
  ok : kC.ok d
  lr : LR kdItem w1 w1.heap.size A c xs
  wt : wtL kdItem xs ≤ 1048576
theorem Dr.ext {w1 w2 : World} {v : Value} {A : Option Addr} {c : Nat} {d : CoD} {xs : List ItD} (h : Dr w1 v A c d xs) (k : Ext w1 w2) : Dr w2 v A c d xs := ⟨kC.rd_ext h.rd k, h.ok, (h.lr.ext k (Nat.le_refl _)).more k.size, h.wt⟩
theorem dr_of {lo : Nat} {w : World} {v : Value} {A : Option Addr} {n c : Nat} (hc : CoR lo w v) (hl : LsR lo w A n c) : ∃ d xs, Dr w v A c d xs ∧ xs.length = n := by
  obtain ⟨d, h1, h2⟩ := hc
  obtain ⟨xs, h3, h4, _, h5⟩ := hl
  exact ⟨d, xs, ⟨h2 w (Since.refl _ _), h1, h5 w (Since.refl _ _), h4⟩, h3⟩
/-- A code and an item, read. -/
structure Di (w1 : World) (v v' : Value) (d : CoD) (x : ItD) : Prop where
  rd : kC.rd w1 v d
  ok : kC.ok d
  ri : kIm.rd w1 v' x
  oi : kIm.ok x
theorem Di.ext {w1 w2 : World} {v v' : Value} {d : CoD} {x : ItD} (h : Di w1 v v' d x) (k : Ext w1 w2) : Di w2 v v' d x := ⟨kC.rd_ext h.rd k, h.ok, kIm.rd_ext h.ri k, h.oi⟩
theorem di_of {lo : Nat} {w : World} {v v' : Value} (hc : CoR lo w v) (hi : ItR lo w v') : ∃ d x, Di w v v' d x := by
  obtain ⟨d, h1, h2⟩ := hc
  obtain ⟨x, h3, h4⟩ := hi
  exact ⟨d, x, ⟨h2 w (Since.refl _ _), h1, h4 w (Since.refl _ _), h3⟩⟩
def validB (d : CoD) (xs : List ItD) : Bool := codeB d && itemsB xs
def brkL (d : CoD) (xs : List ItD) : List Int := (brkF d xs).1
def countR (d : CoD) (xs : List ItD) : List Int := (countLaw d xs).1
def roomR (d : CoD) (xs : List ItD) : List Int := (roomLaw d xs).1
theorem brk_ok (d : CoD) (xs : List ItD) : (brkF d xs).2 = validB d xs := by
  unfold brkF validB; cases h : (codeB d && itemsB xs) <;> simp
theorem prog_ok (d : CoD) (xs : List ItD) : (progLaw d xs).2 = validB d xs := by
  unfold progLaw validB; cases h : (codeB d && itemsB xs) <;> simp
theorem cnt_ok (d : CoD) (xs : List ItD) : (countLaw d xs).2 = validB d xs := by
  unfold countLaw validB; cases h : (codeB d && itemsB xs) <;> simp
theorem room_ok (d : CoD) (xs : List ItD) : (roomLaw d xs).2 = validB d xs := by
  unfold roomLaw validB; cases h : (codeB d && itemsB xs) <;> simp
theorem brkL_len (d : CoD) (xs : List ItD) : (brkL d xs).length ≤ 8 := by
  unfold brkL brkF
  split
  · exact brokenN_len d xs 8
  · exact Nat.zero_le _
theorem countR_le (d : CoD) (xs : List ItD) : (countR d xs).length ≤ 5 := by
  unfold countR countLaw
  split
  · exact Nat.le_of_eq (fcL_len d xs _)
  · exact Nat.zero_le _
theorem roomR_le (d : CoD) (xs : List ItD) : (roomR d xs).length ≤ 5 := by
  unfold roomR roomLaw
  split
  · exact Nat.le_of_eq (roomL_len d xs _)
  · exact Nat.zero_le _
theorem i.BrokenRules_q (w : World) (v : Value) (d : CoD) (A : Option Addr) (c : Nat) (xs : List ItD) (h : kC.rd w v d) (hok : kC.ok d) (hl : LR kdItem w w.heap.size A c xs) (hw : wtL kdItem xs ≤ 1048576) :
    Calls Try.prog 5 #[v, .slice A xs.length c] w fun e w' => ∃ A' c' m, e = .returned (.tuple #[.slice A' m c', .bool (brkF d xs).2]) ∧ OwnI 3 w' w.heap.size A' m c' (brkF d xs).1 ∧ Ext w w' :=
  i.BrokenRules_m w v d A c w.heap.size xs h hok hl (Nat.le_refl _) hw
/-- A list of numbers in memory, its length known. -/
structure Nums (w : World) (A : Option Addr) (n c : Nat) (zs : List Int) : Prop where
  sl : SlI w w.heap.size A n zs
  cap : n ≤ c
  capm : c ≤ 9223372036854775807
theorem Nums.ext {w w' : World} {A : Option Addr} {n c : Nat} {zs : List Int} (h : Nums w A n c zs) (k : Ext w w') : Nums w' A n c zs := ⟨(SlI.ext h.sl k (Nat.le_refl _)).more k.size, h.cap, h.capm⟩
theorem Nums.len {w : World} {A : Option Addr} {n c : Nat} {zs : List Int} (h : Nums w A n c zs) : zs.length = n := h.sl.len
theorem OwnI.nums {e : TypeId} {w : World} {lo n c : Nat} {A : Option Addr} {zs : List Int} (h : OwnI e w lo A n c zs) : Nums w A n c zs := ⟨h.sl, h.capn, h.capm⟩
theorem Nums.same {w : World} {A A' : Option Addr} {n c c' : Nat} {zs : List Int} (h : Nums w A n c zs) (h' : Nums w A' n c' zs) (hn : n ≤ 1048576) : Calls Try.prog 19 #[.slice A n c, .slice A' n c'] w fun e w' => e = .returned (.bool true) ∧ Ext w w' :=
  l.qInts_same A A' n c c' _ _ zs w h.sl h'.sl hn
section
variable {w : World} {v : Value} {A : Option Addr} {c N : Nat} {d : CoD} {xs : List ItD} {G : Bool}
theorem Dr.iBrk (h : Dr w v A c d xs) (hN : xs.length = N) (hG : validB d xs = G) : Calls Try.prog 5 #[v, .slice A N c] w fun e w' => ∃ A' n' c', e = .returned (.tuple #[.slice A' n' c', .bool G]) ∧ n' = (brkL d xs).length ∧ Nums w' A' n' c' (brkL d xs) ∧ Ext w w' := by
  subst hN hG
  refine (i.BrokenRules_q w v d A c xs h.rd h.ok h.lr h.wt).mono ?_
  rintro e w' ⟨A', c', m, rfl, ho, hx⟩
  rw [brk_ok]
  exact ⟨A', m, c', rfl, ho.len.symm, ho.nums, hx⟩
theorem Dr.iProg (h : Dr w v A c d xs) (hN : xs.length = N) (hG : validB d xs = G) : Calls Try.prog 7 #[v, .slice A N c] w fun e w' => e = .returned (.tuple #[.bool (progLaw d xs).1, .bool G]) ∧ Ext w w' := by
  subst hN hG
  rw [← prog_ok]
  exact i.IsProgramme_c w v d A c xs h.rd h.ok h.lr h.wt
theorem Dr.iCnt (h : Dr w v A c d xs) (hN : xs.length = N) (hG : validB d xs = G) : Calls Try.prog 9 #[v, .slice A N c] w fun e w' => ∃ A' n' c', e = .returned (.tuple #[.slice A' n' c', .bool G]) ∧ n' = (countR d xs).length ∧ Nums w' A' n' c' (countR d xs) ∧ Ext w w' := by
  subst hN hG
  refine (i.FamilyCounts_c w v d A c xs h.rd h.ok h.lr h.wt).mono ?_
  rintro e w' ⟨A', n', c', rfl, ho, hn, hx⟩
  rw [cnt_ok]
  exact ⟨A', n', c', rfl, ho.len.symm, ho.nums, hx⟩
theorem Dr.iRoom (h : Dr w v A c d xs) (hN : xs.length = N) (hG : validB d xs = G) : Calls Try.prog 11 #[v, .slice A N c] w fun e w' => ∃ A' n' c', e = .returned (.tuple #[.slice A' n' c', .bool G]) ∧ n' = (roomR d xs).length ∧ Nums w' A' n' c' (roomR d xs) ∧ Ext w w' := by
  subst hN hG
  refine (i.RoomIn_c w v d A c xs h.rd h.ok h.lr h.wt).mono ?_
  rintro e w' ⟨A', n', c', rfl, ho, hn, hx⟩
  rw [room_ok]
  exact ⟨A', n', c', rfl, ho.len.symm, ho.nums, hx⟩
theorem Dr.iRule (h : Dr w v A c d xs) (hN : xs.length = N) (r : Int) : Calls Try.prog 14 #[v, .slice A N c, .int .i64 r] w fun e w' => e = .returned (.tuple #[.bool (holdsLaw d xs r).1, .bool (holdsLaw d xs r).2]) ∧ Ext w w' := by
  subst hN
  exact i.RuleHolds_c w v d A c xs r h.rd h.ok h.lr h.wt
theorem Dr.iLate (h : Dr w v A c d xs) (hN : xs.length = N) (hI : itemsB xs = true) : Calls Try.prog 23 #[.slice A N c] w fun e w' => ∃ A' c', e = .returned (.tuple #[.slice A' N c', .bool true]) ∧ Dr w' v A' c' d (lateL xs) ∧ (lateL xs).length = N ∧ Ext w w' := by
  subst hN
  refine (i.MarkLate_c w A c xs h.lr h.wt).mono ?_
  rintro e w' ⟨A', n', c', rfl, hn, hl, hw, hx⟩
  have e1 : lateLaw xs = (lateL xs, true) := by unfold lateLaw; rw [if_pos hI]
  rw [e1] at hn hl hw ⊢
  have hn : (lateL xs).length = n' := hn
  rw [lateL_len] at hn
  subst hn
  exact ⟨A', c', rfl, ⟨kC.rd_ext h.rd hx, h.ok, hl, hw⟩, lateL_len xs, hx⟩
theorem Di.iFam {v' : Value} {x : ItD} (h : Di w v v' d x) : Calls Try.prog 17 #[v, v'] w fun e w' => e = .returned (.tuple #[.int .i64 (famOf d x).1, .bool (famOf d x).2]) ∧ Ext w w' :=
  i.FamilyOf_c w v v' d x h.rd h.ok h.ri h.oi
theorem Di.iItem {v' : Value} {x : ItD} (h : Di w v v' d x) : Calls Try.prog 20 #[v, v'] w fun e w' => e = .returned (.tuple #[.int .i64 (famIt d x).1, .bool (famIt d x).2]) ∧ Ext w w' :=
  i.ItemFamily_c w v v' d x h.rd h.ok h.ri h.oi

theorem Dr.sBrk (h : Dr w v A c d xs) (hN : xs.length = N) (hG : validB d xs = G) : Calls Try.prog 6 #[v, .slice A N c] w fun e w' => ∃ A' n' c', e = .returned (.tuple #[.slice A' n' c', .bool G]) ∧ n' = (brkL d xs).length ∧ Nums w' A' n' c' (brkL d xs) ∧ Ext w w' := by
  subst hN hG
  refine (s.BrokenRules_c w v d A c xs h.rd h.ok h.lr h.wt).mono ?_
  rintro e w' ⟨A', c', m, rfl, ho, hx⟩
  rw [brk_ok]
  exact ⟨A', m, c', rfl, ho.len.symm, ho.nums, hx⟩
theorem Dr.sProg (h : Dr w v A c d xs) (hN : xs.length = N) (hG : validB d xs = G) : Calls Try.prog 8 #[v, .slice A N c] w fun e w' => e = .returned (.tuple #[.bool (progLaw d xs).1, .bool G]) ∧ Ext w w' := by
  subst hN hG
  rw [← prog_ok]
  exact s.IsProgramme_c w v d A c xs h.rd h.ok h.lr h.wt
theorem Dr.sCnt (h : Dr w v A c d xs) (hN : xs.length = N) (hG : validB d xs = G) : Calls Try.prog 10 #[v, .slice A N c] w fun e w' => ∃ A' n' c', e = .returned (.tuple #[.slice A' n' c', .bool G]) ∧ n' = (countR d xs).length ∧ Nums w' A' n' c' (countR d xs) ∧ Ext w w' := by
  subst hN hG
  refine (s.FamilyCounts_c w v d A c xs h.rd h.ok h.lr h.wt).mono ?_
  rintro e w' ⟨A', n', c', rfl, ho, hn, hx⟩
  rw [cnt_ok]
  exact ⟨A', n', c', rfl, ho.len.symm, ho.nums, hx⟩
theorem Dr.sRoom (h : Dr w v A c d xs) (hN : xs.length = N) (hG : validB d xs = G) : Calls Try.prog 12 #[v, .slice A N c] w fun e w' => ∃ A' n' c', e = .returned (.tuple #[.slice A' n' c', .bool G]) ∧ n' = (roomR d xs).length ∧ Nums w' A' n' c' (roomR d xs) ∧ Ext w w' := by
  subst hN hG
  refine (s.RoomIn_c w v d A c xs h.rd h.ok h.lr h.wt).mono ?_
  rintro e w' ⟨A', n', c', rfl, ho, hn, hx⟩
  rw [room_ok]
  exact ⟨A', n', c', rfl, ho.len.symm, ho.nums, hx⟩
theorem Dr.sRule (h : Dr w v A c d xs) (hN : xs.length = N) (r : Int) : Calls Try.prog 15 #[v, .slice A N c, .int .i64 r] w fun e w' => e = .returned (.tuple #[.bool (holdsLaw d xs r).1, .bool (holdsLaw d xs r).2]) ∧ Ext w w' := by
  subst hN
  exact s.RuleHolds_c w v d A c xs r h.rd h.ok h.lr h.wt
theorem Dr.sLate (h : Dr w v A c d xs) (hN : xs.length = N) (hI : itemsB xs = true) : Calls Try.prog 24 #[.slice A N c] w fun e w' => ∃ A' c', e = .returned (.tuple #[.slice A' N c', .bool true]) ∧ Dr w' v A' c' d (lateL xs) ∧ (lateL xs).length = N ∧ Ext w w' := by
  subst hN
  refine (s.MarkLate_c w A c xs h.lr h.wt).mono ?_
  rintro e w' ⟨A', n', c', rfl, hn, hl, hw, hx⟩
  have e1 : lateLaw xs = (lateL xs, true) := by unfold lateLaw; rw [if_pos hI]
  rw [e1] at hn hl hw ⊢
  have hn : (lateL xs).length = n' := hn
  rw [lateL_len] at hn
  subst hn
  exact ⟨A', c', rfl, ⟨kC.rd_ext h.rd hx, h.ok, hl, hw⟩, lateL_len xs, hx⟩
theorem Di.sFam {v' : Value} {x : ItD} (h : Di w v v' d x) : Calls Try.prog 18 #[v, v'] w fun e w' => e = .returned (.tuple #[.int .i64 (famOf d x).1, .bool (famOf d x).2]) ∧ Ext w w' :=
  s.FamilyOf_c w v v' d x h.rd h.ok h.ri h.oi
theorem Di.sItem {v' : Value} {x : ItD} (h : Di w v v' d x) : Calls Try.prog 21 #[v, v'] w fun e w' => e = .returned (.tuple #[.int .i64 (famIt d x).1, .bool (famIt d x).2]) ∧ Ext w w' :=
  s.ItemFamily_c w v v' d x h.rd h.ok h.ri h.oi
end
theorem Dr.same {w : World} {v v' : Value} {A A' : Option Addr} {c c' N : Nat} {d d' : CoD} {xs : List ItD} (h : Dr w v A c d xs) (h' : Dr w v' A' c' d' xs) (hN : xs.length = N) : Calls Try.prog 25 #[.slice A N c, .slice A' N c'] w fun e w' => e = .returned (.bool true) ∧ Ext w w' := by
  subst hN
  exact l.qItems_same w A A' c c' _ _ xs h.lr h'.lr (Nat.le_refl _) (Nat.le_refl _) h.wt
/-! ### What the law needs to know, where the arguments are valid -/
theorem valid_two {d : CoD} {xs : List ItD} (h : validB d xs = true) : codeB d = true ∧ itemsB xs = true := by
  simpa [validB] using h
theorem brkL_yes {d : CoD} {xs : List ItD} (h : validB d xs = true) : brkL d xs = brokenF d xs := by
  unfold validB at h; unfold brkL brkF; rw [h]; rfl
theorem countR_yes {d : CoD} {xs : List ItD} (h : validB d xs = true) : countR d xs = fcL d xs xs.length := by
  unfold validB at h; unfold countR countLaw; rw [h]; rfl
theorem roomR_yes {d : CoD} {xs : List ItD} (h : validB d xs = true) : roomR d xs = roomL d xs 5 := by
  unfold validB at h; unfold roomR roomLaw; rw [h]; rfl
theorem holds_yes {d : CoD} {xs : List ItD} (h : validB d xs = true) (k : Nat) (hk : k < 8) : holdsLaw d xs ((k : Int) + 1) = (ruleB d xs ((k : Int) + 1), true) := by
  unfold validB at h; unfold holdsLaw
  have : inB 1 8 ((k : Int) + 1) = true := by simp [inB]; omega
  rw [h, this]; rfl
theorem late_items {xs : List ItD} (h : itemsB xs = true) : itemsB (lateL xs) = true := by
  simp only [itemsB, Bool.and_eq_true, List.all_eq_true, decide_eq_true_eq] at h ⊢
  refine ⟨fun x hx => ?_, by rw [lateL_len]; exact h.2⟩
  obtain ⟨i, hi⟩ := List.getElem?_of_mem hx
  have hl : i < xs.length := by have := (List.getElem?_eq_some_iff.1 hi).1; rwa [lateL_len] at this
  rw [lateL_at xs i hl] at hi
  injection hi with hi
  subst hi
  have := h.1 _ (List.getElem_mem hl)
  exact this
theorem late_holds {d : CoD} {xs : List ItD} (h : validB d xs = true) : holdsLaw d (lateL xs) 8 = (true, true) := by
  have hv : validB d (lateL xs) = true := by unfold validB; rw [(valid_two h).1, late_items (valid_two h).2]; rfl
  have := holds_yes hv 7 (by omega)
  have e : ruleB d (lateL xs) 8 = lateB (lateL xs) := by unfold ruleB; rfl
  rw [show ((7 : Nat) : Int) + 1 = 8 from rfl, e, late_rule] at this
  exact this
theorem prog_yes {d : CoD} {xs : List ItD} (h : validB d xs = true) : (progLaw d xs).1 = decide ((brkL d xs).length = 0) := by
  rw [brkL_yes h]
  unfold validB at h; unfold progLaw; rw [h]
  show progB d xs = _
  unfold progB; rw [h, Bool.true_and]
  rw [Bool.eq_iff_iff]; simp
/-- Counts and room make limits. -/
theorem room_sum {d : CoD} {xs : List ItD} (h : validB d xs = true) (hl : xs.length ≤ 1048576) (k : Nat) (hk : k < 5) : 0 ≤ (countR d xs).getD k 0 ∧ (countR d xs).getD k 0 ≤ 1048576 ∧ -1048576 ≤ (roomR d xs).getD k 0 ∧ (roomR d xs).getD k 0 ≤ 9 ∧ (countR d xs).getD k 0 + (roomR d xs).getD k 0 = d.2.1.getD k 0 := by
  have hc := codeB_ok (valid_two h).1
  rw [countR_yes h, roomR_yes h]
  have fb := fcL_bd d xs xs.length k
  have e : (roomL d xs 5).getD k 0 = d.2.1.getD k 0 - (fcL d xs xs.length).getD k 0 := by
    unfold roomL
    rw [List.getD_eq_getElem?_getD, List.getElem?_map, List.getElem?_range hk]
    simp [hk]
  have hkl : k < d.2.1.length := by have := hc.lim; omega
  have lb : 0 ≤ d.2.1.getD k 0 ∧ d.2.1.getD k 0 ≤ 9 := hc.limb _ (by rw [List.getD_eq_getElem?_getD, List.getElem?_eq_getElem hkl]; exact List.getElem_mem _)
  rw [e]
  omega
theorem countR_len {d : CoD} {xs : List ItD} (h : validB d xs = true) : (countR d xs).length = 5 := by rw [countR_yes h, fcL_len]
theorem roomR_len {d : CoD} {xs : List ItD} (h : validB d xs = true) : (roomR d xs).length = 5 := by rw [roomR_yes h, roomL_len]
theorem cnt_small {d : CoD} {xs : List ItD} (h : validB d xs = true) (hl : xs.length ≤ 1048576) : Small (countR d xs) := by
  rw [countR_yes h]
  intro z hz
  obtain ⟨k, hk, rfl⟩ := List.mem_iff_getElem.1 hz
  have := fcL_bd d xs xs.length k
  rw [List.getD_eq_getElem?_getD, List.getElem?_eq_getElem hk] at this
  simp only [Option.getD_some] at this
  omega
theorem cnt_sum {d : CoD} {xs : List ItD} (h : validB d xs = true) : (countR d xs).sum ≤ xs.length := by
  rw [countR_yes h]
  exact fc_sum d xs xs.length (Nat.le_refl _)
theorem brk_has {d : CoD} {xs : List ItD} (h : validB d xs = true) (k : Nat) (hk : k < 8) : (brkL d xs).contains ((k : Int) + 1) = !ruleB d xs ((k : Int) + 1) := by
  rw [brkL_yes h]
  exact has_broken d xs k hk
end Go.Proofs.Ytijgndfhfggipaa
