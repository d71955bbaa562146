import Derived.Test.YteagigjljejjiaaT3
namespace Go.Proofs.Yteagigjljejjiaa
open Go.RowKit

theorem l.eqIntS_ext (A A' : Option Addr) (n c c' B B' : Nat) (zs : List Int) (w : World) (h : SlI w B A n zs) (h' : SlI w B' A' n zs) (hn : n ≤ 1048576) :
    Calls Try.prog 17 #[.slice A n c, .slice A' n c'] w fun e w' => e = .returned (.bool true) ∧ Ext w w' :=
  (l.eqIntS_same A A' n c c' B B' zs w h h' hn).mono fun _ _ ⟨he, m, hm⟩ => ⟨he, hm ▸ Ext.drewN w m⟩

theorem s.l1Own_any (A : Option Addr) (n c B : Nat) (zs : List Int) (w : World) (h : SlI w B A n zs) (hB : B ≤ w.heap.size) (hn : n ≤ 1048576) :
    Calls Try.prog 48 #[.slice A n c] w fun e w' => ∃ A' c', e = .returned (.slice A' n c') ∧ OwnI 3 w' w.heap.size A' n c' zs ∧ Ext w w' := by
  have H := hide h
  clear h
  go_enter Try.func48, Try.ntmps48
  go_wp2_with (at_builtin; refine wpList_append_sl rfl (.tmp 3) (.tmp 4) rfl elem_int rfl rfl (Own.empty w 3 (Nat.le_refl _)) (H.out.alloc hB _) (oneCell_ints zs) ?c1 ?c2 ?c3 ?_)
  case c1 => omega
  case c2 => omega
  case c3 => simp
  intro A' c' w' hap
  go_wp2
  go_ret
  exact ⟨A', c', rfl, hap.own, hap.below ((Below.refl w.heap.size w).alloc (Nat.le_refl _) _) (by simp) (fun p hp => by cases hp; exact Nat.le_refl _) (Nat.le_refl _)⟩

/-- Valid marks with a judge k. -/
def hasMark (zs : List Int) (k : Int) : Bool := goodMarks zs && inB 0 ((zs.length : Int) - 1) k
theorem hasMark_ok {zs : List Int} {k : Int} (h : hasMark zs k = true) : goodMarks zs = true ∧ 1 ≤ zs.length ∧ zs.length ≤ 9 ∧ 0 ≤ k ∧ k < zs.length := by
  simp only [hasMark, goodMarks, inB, Bool.and_eq_true, decide_eq_true_eq] at h
  obtain ⟨⟨⟨h1, h2⟩, h3⟩, h4, h5⟩ := h
  refine ⟨?_, by omega, by omega, by omega, by omega⟩
  simp only [goodMarks, inB, Bool.and_eq_true, decide_eq_true_eq]
  exact ⟨⟨h1, h2⟩, h3⟩

theorem i.isMarkOf_any (A : Option Addr) (n c B : Nat) (zs : List Int) (k : Int) (w : World) (h : SlI w B A n zs) (hn : n ≤ 1048576) :
    Calls Try.prog 46 #[.slice A n c, .int .i64 k] w fun e w' => e = .returned (.bool (hasMark zs k)) ∧ w = w' := by
  have HL := hide h.len
  go_enter Try.func46, Try.ntmps46
  go_wp2_with (first
    | (go_at_call 16; refine (i.AreMarksOf_any _ _ _ _ zs _ h hn).mono ?_; rintro e w' ⟨rfl, rfl⟩)
    | (go_at_call 41; refine (i.within_any _ _ _ _).mono ?_; rintro e w' ⟨rfl, rfl⟩))
  all_goals go_ret
  all_goals refine ⟨ret_bool ?_, rfl⟩
  all_goals unfold hasMark
  all_goals rw [HL.out]
  all_goals simp_all

theorem s.tmHas_any (A : Option Addr) (n c B : Nat) (zs : List Int) (k : Int) (w : World) (h : SlI w B A n zs) (hn : n ≤ 1048576) :
    Calls Try.prog 43 #[.slice A n c, .int .i64 k] w fun e w' => e = .returned (.bool (hasMark zs k)) ∧ w = w' := by
  have HL := hide h.len
  go_enter Try.func43, Try.ntmps43
  go_wp2_with (first
    | (go_at_call 40; refine (s.tmGood_any _ _ _ _ zs _ h hn).mono ?_; rintro e w' ⟨rfl, rfl⟩)
    | (go_at_call 44; refine (s.l1In_any _ _ _ _).mono ?_; rintro e w' ⟨rfl, rfl⟩))
  all_goals go_ret
  all_goals refine ⟨ret_bool ?_, rfl⟩
  all_goals unfold hasMark
  all_goals rw [HL.out]
  all_goals simp_all

theorem i.withMark_any (A : Option Addr) (n c B k : Nat) (zs : List Int) (m : Int) (w : World) (h : SlI w B A n zs) (hB : B ≤ w.heap.size) (hn : n ≤ 1048576) (hk : k < n) :
    Calls Try.prog 47 #[.slice A n c, .int .i64 k, .int .i64 m] w fun e w' => ∃ A' c', e = .returned (.slice A' n c') ∧ OwnI 3 w' w.heap.size A' n c' (zs.set k m) ∧ Ext w w' := by
  go_enter Try.func47, Try.ntmps47
  go_wp2_with fail
  refine (i.copyInts_any _ _ _ _ zs _ h hB hn).mono ?_
  rintro e w1 ⟨A', c', rfl, hown, hx⟩
  obtain ⟨g, rfl, hg1, hg2, hg3⟩ := hown.pos (by omega)
  have hcd := hown.cell k hk
  have hfd := hown.free k
  have HO := hide hown
  have HX := hide hx
  clear hown hx h
  go_wp2
  go_ret
  exact ⟨_, _, rfl, HO.out.set k m, Below.setCell HX.out hg1 _⟩

theorem s.tmWith_any (A : Option Addr) (n c B k : Nat) (zs : List Int) (m : Int) (w : World) (h : SlI w B A n zs) (hB : B ≤ w.heap.size) (hn : n ≤ 1048576) (hk : k < n) :
    Calls Try.prog 45 #[.slice A n c, .int .i64 k, .int .i64 m] w fun e w' => ∃ A' c', e = .returned (.slice A' n c') ∧ OwnI 3 w' w.heap.size A' n c' (zs.set k m) ∧ Ext w w' := by
  go_enter Try.func45, Try.ntmps45
  go_wp2_with fail
  refine (s.l1Own_any _ _ _ _ zs _ h hB hn).mono ?_
  rintro e w1 ⟨A', c', rfl, hown, hx⟩
  obtain ⟨g, rfl, hg1, hg2, hg3⟩ := hown.pos (by omega)
  have hcd := hown.cell k hk
  have hfd := hown.free k
  have HO := hide hown
  have HX := hide hx
  clear hown hx h
  go_wp2
  go_ret
  exact ⟨_, _, rfl, HO.out.set k m, Below.setCell HX.out hg1 _⟩

/-- The result of WithMark. -/
def withMarkF (zs : List Int) (k m : Int) : List Int × Bool := if hasMark zs k && inB (-1000) 1000 m then (zs.set k.toNat m, true) else ([], false)

/-- What a function that returns a list in new memory and a bool leaves. -/
def RetLB (e : TypeId) (w : World) (r : List Int × Bool) (x : Ending) (w' : World) : Prop :=
  ∃ A' c', x = .returned (.tuple #[.slice A' r.1.length c', .bool r.2]) ∧ OwnI e w' w.heap.size A' r.1.length c' r.1 ∧ Ext w w'

section
variable {e : TypeId} {w w' : World} {n c' : Nat} {A' : Option Addr} {zs : List Int} {r : List Int × Bool}
theorem RetLB.no (h : r = ([], false)) : RetLB e w r (.returned (.tuple #[.slice none 0 0, .bool false])) w := by
  subst h; exact ⟨none, 0, rfl, OwnI.nil, Ext.refl _⟩
theorem RetLB.yes (h : r = (zs, true)) (hl : zs.length = n) (hown : OwnI e w' w.heap.size A' n c' zs) (hx : Ext w w') : RetLB e w r (.returned (.tuple #[.slice A' n c', .bool true])) w' := by
  subst h; subst hl; exact ⟨A', c', rfl, hown, hx⟩
end

theorem i.WithMark_any (A : Option Addr) (n c B : Nat) (zs : List Int) (k m : Int) (w : World) (h : SlI w B A n zs) (hB : B ≤ w.heap.size) (hn : n ≤ 1048576) :
    Calls Try.prog 19 #[.slice A n c, .int .i64 k, .int .i64 m] w (RetLB 3 w (withMarkF zs k m)) := by
  have HL := hide h.len
  cases h1 : hasMark zs k
  · have HF : Hid (withMarkF zs k m = ([], false)) := by show _ = _; simp [withMarkF, h1]
    go_enter Try.func19, Try.ntmps19
    go_wp2_with (go_at_call 46; refine (i.isMarkOf_any _ _ _ _ zs _ _ h hn).mono ?_; rintro e w1 ⟨rfl, rfl⟩)
    go_ret2
    exact RetLB.no HF.out
  · cases h2 : inB (-1000) 1000 m
    · have HF : Hid (withMarkF zs k m = ([], false)) := by show _ = _; simp [withMarkF, h2]
      go_enter Try.func19, Try.ntmps19
      go_wp2_with (first | (go_at_call 46; refine (i.isMarkOf_any _ _ _ _ zs _ _ h hn).mono ?_; rintro e w1 ⟨rfl, rfl⟩) | (go_at_call 41; refine (i.within_any _ _ _ _).mono ?_; rintro e w1 ⟨rfl, rfl⟩))
      go_ret2
      exact RetLB.no HF.out
    · have HF : Hid (withMarkF zs k m = (zs.set k.toNat m, true)) := by show _ = _; simp [withMarkF, h1, h2]
      obtain ⟨_, _, _, hk0, hk1⟩ := hasMark_ok h1
      obtain ⟨j, rfl⟩ := Int.eq_ofNat_of_zero_le hk0
      go_enter Try.func19, Try.ntmps19
      go_wp2_with (first | (go_at_call 46; refine (i.isMarkOf_any _ _ _ _ zs _ _ h hn).mono ?_; rintro e w1 ⟨rfl, rfl⟩) | (go_at_call 41; refine (i.within_any _ _ _ _).mono ?_; rintro e w1 ⟨rfl, rfl⟩))
      refine (i.withMark_any _ _ _ _ j zs _ _ h hB hn (by have := HL.out; omega)).mono ?_
      rintro e w1 ⟨A', c', rfl, hown, hx⟩
      have HO := hide hown
      clear hown h1 h2
      go_wp2
      go_ret2
      exact RetLB.yes HF.out (by simp [HL.out]) HO.out hx

theorem s.WithMark_any (A : Option Addr) (n c B : Nat) (zs : List Int) (k m : Int) (w : World) (h : SlI w B A n zs) (hB : B ≤ w.heap.size) (hn : n ≤ 1048576) :
    Calls Try.prog 18 #[.slice A n c, .int .i64 k, .int .i64 m] w (RetLB 3 w (withMarkF zs k m)) := by
  have HL := hide h.len
  cases h1 : hasMark zs k
  · have HF : Hid (withMarkF zs k m = ([], false)) := by show _ = _; simp [withMarkF, h1]
    go_enter Try.func18, Try.ntmps18
    go_wp2_with (go_at_call 43; refine (s.tmHas_any _ _ _ _ zs _ _ h hn).mono ?_; rintro e w1 ⟨rfl, rfl⟩)
    go_ret2
    exact RetLB.no HF.out
  · cases h2 : inB (-1000) 1000 m
    · have HF : Hid (withMarkF zs k m = ([], false)) := by show _ = _; simp [withMarkF, h2]
      go_enter Try.func18, Try.ntmps18
      go_wp2_with (first | (go_at_call 43; refine (s.tmHas_any _ _ _ _ zs _ _ h hn).mono ?_; rintro e w1 ⟨rfl, rfl⟩) | (go_at_call 44; refine (s.l1In_any _ _ _ _).mono ?_; rintro e w1 ⟨rfl, rfl⟩))
      go_ret2
      exact RetLB.no HF.out
    · have HF : Hid (withMarkF zs k m = (zs.set k.toNat m, true)) := by show _ = _; simp [withMarkF, h1, h2]
      obtain ⟨_, _, _, hk0, hk1⟩ := hasMark_ok h1
      obtain ⟨j, rfl⟩ := Int.eq_ofNat_of_zero_le hk0
      go_enter Try.func18, Try.ntmps18
      go_wp2_with (first | (go_at_call 43; refine (s.tmHas_any _ _ _ _ zs _ _ h hn).mono ?_; rintro e w1 ⟨rfl, rfl⟩) | (go_at_call 44; refine (s.l1In_any _ _ _ _).mono ?_; rintro e w1 ⟨rfl, rfl⟩))
      refine (s.tmWith_any _ _ _ _ j zs _ _ h hB hn (by have := HL.out; omega)).mono ?_
      rintro e w1 ⟨A', c', rfl, hown, hx⟩
      have HO := hide hown
      clear hown h1 h2
      go_wp2
      go_ret2
      exact RetLB.yes HF.out (by simp [HL.out]) HO.out hx

end Go.Proofs.Yteagigjljejjiaa
