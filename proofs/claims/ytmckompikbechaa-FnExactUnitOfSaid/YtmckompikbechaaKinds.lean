/- Kinds of data as the laws hand them about: what it means that a value reads as a datum, that it is an object of the call's own; and what the laws' helpers do with them. -/
import Derived.Test.YtmckompikbechaaT4
namespace Go.Proofs.Ytmckompikbechaa
open Go.RowKit

structure Kind (D : Type) where
  rd : World → Value → D → Prop
  fr : World → Nat → Nat → Value → D → Prop
  ok : D → Prop
  mrk : Int → D → D
  cnt : D → Nat
  rd_ext : ∀ {w w' : World} {v : Value} {d : D}, rd w v d → Ext w w' → rd w' v d
  fr_rd : ∀ {w : World} {lo hi : Nat} {v : Value} {d : D}, fr w lo hi v d → rd w v d
  fr_tch : ∀ {w w' : World} {lo hi lo' hi' : Nat} {v : Value} {d : D}, fr w lo hi v d → Tch lo' hi' w w' → (hi ≤ lo' ∨ hi' ≤ lo) → fr w' lo hi v d
  ok_cnt : ∀ {d : D}, ok d → cnt d ≤ 8388608

section
variable {D : Type} {K : Kind D} {w w' : World} {lo hi : Nat} {v : Value} {d : D}
theorem Kind.fr_ext (K : Kind D) (h : K.fr w lo hi v d) (k : Ext w w') : K.fr w' lo hi v d := K.fr_tch h (Tch.of_ext (lo := hi) (hi := hi) k) (.inl (Nat.le_refl _))
end

theorem Ext.tch {lo hi : Nat} {a w w' : World} (h : Ext a w) (k : Tch lo hi w w') (hlo : a.heap.size ≤ lo) : Ext a w' := Below.tch h k h.size hlo

section
variable {D : Type} (P : Program) (K : Kind D) (f : FuncId)
def ToC : Prop := ∀ (w : World) (v : Value) (d : D), K.rd w v d → K.ok d → Calls P f #[v] w fun e w' => ∃ v', e = .returned v' ∧ K.fr w' w.heap.size w'.heap.size v' d ∧ Ext w w'
def EqC : Prop := ∀ (w : World) (v v' : Value) (d : D), K.rd w v d → K.rd w v' d → K.ok d → Calls P f #[v, v'] w fun e w' => e = .returned (.bool true) ∧ Ext w w'
def MarkC : Prop := ∀ (w : World) (lo hi : Nat) (v : Value) (d : D) (k : Int), K.fr w lo hi v d → K.ok d → 0 ≤ k → k ≤ 4294967296 →
  Calls P f #[v, .int .i64 k] w fun e w' => e = .returned (.int .i64 (k + K.cnt d)) ∧ K.fr w' lo hi v (K.mrk k d) ∧ Tch lo hi w w'
def HeldC : Prop := ∀ (w : World) (v : Value) (d : D) (k : Int), K.rd w v (K.mrk k d) → K.ok d → 0 ≤ k → k ≤ 4294967296 →
  Calls P f #[v, .int .i64 k] w fun e w' => e = .returned (.int .i64 (k + K.cnt d)) ∧ Ext w w'
end

/-- Lists of numbers. -/
def kI : Kind (List Int) where
  rd w v zs := ∃ A c, v = .slice A zs.length c ∧ SlI w w.heap.size A zs.length zs ∧ zs.length ≤ c ∧ c ≤ 9223372036854775807
  fr w lo hi v zs := ∃ A c, v = .slice A zs.length c ∧ FrI 3 w lo hi A zs.length c zs
  ok zs := zs.length ≤ 1048576
  mrk k zs := upFrom k zs.length
  cnt zs := zs.length
  rd_ext := by
    rintro w w' v d ⟨A, c, rfl, h, hc⟩ hx
    exact ⟨A, c, rfl, (h.ext hx (Nat.le_refl _)).more hx.size, hc⟩
  fr_rd := by
    rintro w lo hi v d ⟨A, c, rfl, h⟩
    exact ⟨A, c, rfl, h.sl, h.own.capn, h.own.capm⟩
  fr_tch := by
    rintro w w' lo hi lo' hi' v d ⟨A, c, rfl, h⟩ k hd
    exact ⟨A, c, rfl, h.tch k hd⟩
  ok_cnt := fun h => Nat.le_trans h (by decide)

theorem kI.to : ToC Try.prog kI 84 := by
  rintro w v d ⟨A, c, rfl, h, _⟩ hn
  refine (l.toIntS_any _ _ _ _ d _ h (Nat.le_refl _) hn).mono ?_
  rintro e w' ⟨A', c', rfl, ho, hx⟩
  exact ⟨_, rfl, ⟨A', c', rfl, ho.fr⟩, hx⟩
theorem kI.eq : EqC Try.prog kI 45 := by
  rintro w v v' d ⟨A, c, rfl, h, _⟩ ⟨A', c', rfl, h', _⟩ hn
  exact l.eqIntS_ext _ _ _ _ _ _ _ d _ h h' hn
theorem kI.mark : MarkC Try.prog kI 47 := by
  rintro w lo hi v d k ⟨A, c, rfl, h⟩ hn hk0 hk1
  refine (l.markIntS_any _ _ _ _ d k _ h.own hn hk0 (by omega)).mono ?_
  rintro e w' ⟨rfl, ho, hg⟩
  refine ⟨rfl, ⟨A, c, by rw [show kI.mrk k d = upFrom k d.length from rfl, upFrom_len], ?_⟩, Tch.of_grown hg h.at_⟩
  rw [show kI.mrk k d = upFrom k d.length from rfl, upFrom_len]
  exact ⟨ho, Nat.le_trans h.2.1 hg.size, h.2.2⟩
theorem kI.held : HeldC Try.prog kI 48 := by
  rintro w v d k ⟨A, c, hv, h, _⟩ hn hk0 hk1
  rw [show kI.mrk k d = upFrom k d.length from rfl, upFrom_len] at hv h
  subst hv
  refine (l.heldIntS_same _ _ _ _ k _ h hn hk0 (by omega)).mono ?_
  rintro e w' ⟨rfl, rfl⟩
  exact ⟨rfl, Ext.refl _⟩

end Go.Proofs.Ytmckompikbechaa
