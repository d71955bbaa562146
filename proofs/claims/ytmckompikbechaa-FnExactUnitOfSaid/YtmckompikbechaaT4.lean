import Derived.Test.YtmckompikbechaaT3
namespace Go.Proofs.Ytmckompikbechaa
open Go.RowKit

theorem l.eqIntS_ext (A A' : Option Addr) (n c c' B B' : Nat) (zs : List Int) (w : World) (h : SlI w B A n zs) (h' : SlI w B' A' n zs) (hn : n ≤ 1048576) :
    Calls Try.prog 45 #[.slice A n c, .slice A' n c'] w fun e w' => e = .returned (.bool true) ∧ Ext w w' :=
  (l.eqIntS_same A A' n c c' B B' zs w h h' hn).mono fun _ _ ⟨he, m, hm⟩ => ⟨he, hm ▸ Ext.drewN w m⟩

theorem s.l1Own_any (A : Option Addr) (n c B : Nat) (zs : List Int) (w : World) (h : SlI w B A n zs) (hB : B ≤ w.heap.size) (hn : n ≤ 1048576) :
    Calls Try.prog 126 #[.slice A n c] w fun e w' => ∃ A' c', e = .returned (.slice A' n c') ∧ OwnI 3 w' w.heap.size A' n c' zs ∧ Ext w w' := by
  have H := hide h
  clear h
  go_enter Try.func126, Try.ntmps126
  go_wp2_with (at_builtin; refine wpList_append_sl rfl (.tmp 3) (.tmp 4) rfl elem_int rfl rfl (Own.empty w 3 (Nat.le_refl _)) (H.out.alloc hB _) (oneCell_ints zs) ?c1 ?c2 ?c3 ?_)
  case c1 => omega
  case c2 => omega
  case c3 => simp
  intro A' c' w' hap
  go_wp2
  go_ret
  exact ⟨A', c', rfl, hap.own, hap.below ((Below.refl w.heap.size w).alloc (Nat.le_refl _) _) (by simp) (fun p hp => by cases hp; exact Nat.le_refl _) (Nat.le_refl _)⟩

/-- Valid marks with a judge k. -/
def hasMark (zs : List Int) (k : Int) : Bool := goodMarks zs && inB 0 ((zs.length : Int) - 1) k
theorem hasMark_ok {zs : List Int} {k : Int} (h : hasMark zs k = true) : goodMarks zs = true ∧ 1 ≤ zs.length ∧ zs.length ≤ 9 ∧ 0 ≤ k ∧ k < zs.length := by
  simp only [hasMark, goodMarks, inB, Bool.and_eq_true, decide_eq_true_eq] at h
  obtain ⟨⟨⟨h1, h2⟩, h3⟩, h4, h5⟩ := h
  refine ⟨?_, by omega, by omega, by omega, by omega⟩
  simp only [goodMarks, inB, Bool.and_eq_true, decide_eq_true_eq]
  exact ⟨⟨h1, h2⟩, h3⟩

/-- The result of WithMark. -/
def withMarkF (zs : List Int) (k m : Int) : List Int × Bool := if hasMark zs k && inB (-1000) 1000 m then (zs.set k.toNat m, true) else ([], false)

/-- What a function that returns a list in new memory and a bool leaves. -/
def RetLB (e : TypeId) (w : World) (r : List Int × Bool) (x : Ending) (w' : World) : Prop :=
  ∃ A' c', x = .returned (.tuple #[.slice A' r.1.length c', .bool r.2]) ∧ OwnI e w' w.heap.size A' r.1.length c' r.1 ∧ Ext w w'

section
variable {e : TypeId} {w w' : World} {n c' : Nat} {A' : Option Addr} {zs : List Int} {r : List Int × Bool}
theorem RetLB.no (h : r = ([], false)) : RetLB e w r (.returned (.tuple #[.slice none 0 0, .bool false])) w := by
  subst h; exact ⟨none, 0, rfl, OwnI.nil, Ext.refl _⟩
theorem RetLB.yes (h : r = (zs, true)) (hl : zs.length = n) (hown : OwnI e w' w.heap.size A' n c' zs) (hx : Ext w w') : RetLB e w r (.returned (.tuple #[.slice A' n c', .bool true])) w' := by
  subst h; subst hl; exact ⟨A', c', rfl, hown, hx⟩
end

end Go.Proofs.Ytmckompikbechaa
