/- Sheets and lists of lists as the laws that mark them hand them about. -/
import Derived.Test.YtmckompikbechaaON
namespace Go.Proofs.Ytmckompikbechaa
open Go.RowKit Go.Sort
set_option linter.unusedVariables false

theorem cntL_le {α : Type} (K : Kd α) (m : Nat) (h : ∀ x, K.cnt x ≤ m * (1 + K.wt x)) (xs : List α) : cntL K xs ≤ m * wtL K xs := by
  induction xs with
  | nil => exact Nat.zero_le _
  | cons x t ih =>
    have h1 := h x
    show K.cnt x + cntL K t ≤ m * (1 + K.wt x + wtL K t)
    rw [Nat.mul_add]
    omega
theorem cntLL_wt (xs : List (List Int)) : kdLL.cnt xs ≤ kdLL.wt xs := by
  have := cntL_le kdL 1 (fun x => by
    have h1 : kdL.cnt x = x.length := cntL_int x
    have h2 : kdL.wt x = x.length := wtL_int x
    omega) xs
  have e1 : kdLL.cnt xs = cntL kdL xs := rfl
  have e2 : kdLL.wt xs = wtL kdL xs := rfl
  omega
theorem cntSh_wt (d : ShD) : kdSh.cnt d ≤ 3 * kdSh.wt d := by
  have h1 : kdItS.cnt d.1 ≤ 1 * kdItS.wt d.1 := cntL_le kdItem 1 (fun x => by
    have e1 : kdItem.cnt x = kdSS.cnt x.1 + (kdL.cnt x.2.1 + 1) := rfl
    have e2 : kdSS.cnt x.1 ≤ 1 * kdSS.wt x.1 := cntL_le kdS 1 (fun y => by have : kdS.cnt y = 1 := rfl; omega) x.1
    have e3 : kdL.cnt x.2.1 = x.2.1.length := cntL_int _
    have e4 : kdL.wt x.2.1 = x.2.1.length := wtL_int _
    rw [kdItem.wt_eq]
    omega) d.1
  have h2 : kdLLL.cnt d.2.1 ≤ 1 * kdLLL.wt d.2.1 := cntL_le kdLL 1 (fun x => by have := cntLL_wt x; omega) d.2.1
  have h3 : kdRvS.cnt d.2.2 ≤ 3 * kdRvS.wt d.2.2 := cntL_le kdRv 3 (fun x => by have : kdRv.cnt x = 3 := rfl; omega) d.2.2
  have e : kdSh.cnt d = kdItS.cnt d.1 + (kdLLL.cnt d.2.1 + kdRvS.cnt d.2.2) := rfl
  rw [kdSh.wt_eq]
  omega
/-- Sheets, with their marks. -/
def kSm : Kind ShD := { kSh with
  mrk := kdSh.mrk
  cnt := kdSh.cnt
  ok_cnt := fun {d} h => by have h1 := cntSh_wt d; have h2 : kdSh.wt d ≤ 1048576 := h; omega }
def kSm.wt (d : ShD) : Nat := kdSh.wt d
theorem kSm.ok_of {d : ShD} (h : ¬ 1048576 < kSm.wt d) : kSm.ok d := Nat.le_of_not_lt h
theorem kSm.shape {w : World} {v : Value} {d : ShD} (h : kSm.rd w v d) : ∃ A n c A' n' c' A'' n'' c'', v = .agg #[.slice A n c, .slice A' n' c', .slice A'' n'' c''] := kSh.shape h
theorem kSm.to : ToC Try.prog kSm 24 := kSh.to
theorem kSm.eq : EqC Try.prog kSm 17 := kSh.eq
theorem kSm.sz (w : World) (v : Value) (d : ShD) (h : kSm.rd w v d) : Calls Try.prog 22 #[v, .int .i64 1048576] w fun e w' => e = .returned (.int .i64 (if (kSm.wt d : Int) ≤ 1048576 then 1048576 - kSm.wt d else -1)) ∧ Ext w w' := kSh.sz w v d h
theorem kSm.mark : MarkC Try.prog kSm 20 := by
  rintro w lo hi v d k ⟨vs, fp, rfl, h, hf⟩ hn hk0 hk1
  refine (kdSh.mark _ _ d fp k h hn hk0 (by have := cntSh_wt d; have : kdSh.wt d ≤ 1048576 := hn; omega)).mono ?_
  rintro e w' ⟨rfl, ho, hg⟩
  exact ⟨rfl, ⟨vs, fp, rfl, ho, hf⟩, TchF.tch hg hf⟩
/-- Lists of lists of numbers. -/
def kII : Kind (List (List Int)) where
  rd w v d := ∃ vs, v = kdLL.val vs ∧ kdLL.rd w w.heap.size vs d
  fr w lo hi v d := ∃ vs fp, v = kdLL.val vs ∧ kdLL.own w vs d fp ∧ (∀ i ∈ fp, lo ≤ i ∧ i < hi)
  ok d := kdLL.wt d ≤ 1048576
  mrk := kdLL.mrk
  cnt := kdLL.cnt
  rd_ext := by
    rintro w w' v d ⟨vs, rfl, h⟩ hx
    exact ⟨vs, rfl, kdLL.rd_more (kdLL.rd_ext h hx (Nat.le_refl _)) hx.size⟩
  fr_rd := by
    rintro w lo hi v d ⟨vs, fp, rfl, h, _⟩
    exact ⟨vs, rfl, kdLL.own_rd h⟩
  fr_tch := by
    rintro w w' lo hi lo' hi' v d ⟨vs, fp, rfl, h, hf⟩ k hd
    refine ⟨vs, fp, rfl, kdLL.own_keep h (fun i hi' => k.block i (kdLL.own_lt h i hi') ?_), hf⟩
    have := hf i hi'
    omega
  ok_cnt := fun {d} h => Nat.le_trans (Nat.le_trans (cntLL_wt d) h) (by decide)
theorem kII.eq : EqC Try.prog kII 119 := by
  rintro w v v' d ⟨vs, rfl, h⟩ ⟨vs', rfl, h'⟩ hn
  exact kdLL.eq_ _ _ _ d h h' hn
theorem kII.mark : MarkC Try.prog kII 122 := by
  rintro w lo hi v d k ⟨vs, fp, rfl, h, hf⟩ hn hk0 hk1
  refine (kdLL.mark _ _ d fp k h hn hk0 (by have := cntLL_wt d; have : kdLL.wt d ≤ 1048576 := hn; omega)).mono ?_
  rintro e w' ⟨rfl, ho, hg⟩
  exact ⟨rfl, ⟨vs, fp, rfl, ho, hf⟩, TchF.tch hg hf⟩
theorem kII.held : HeldC Try.prog kII 124 := by
  rintro w v d k ⟨vs, rfl, h⟩ hn hk0 hk1
  exact kdLL.held _ _ d k h hn hk0 (by have := cntLL_wt d; have : kdLL.wt d ≤ 1048576 := hn; omega)
theorem kII.of_LO {w : World} {A : Option Addr} {c lo n : Nat} {xs : List (List Int)} {fp : List Nat} (h : LO kdL 51 w A c xs fp) (hf : ∀ i ∈ fp, lo ≤ i) (hn : n = xs.length) : kII.fr w lo w.heap.size (.slice A n c) xs := by
  subst hn
  exact ⟨[.slice A xs.length c], fp, rfl, ⟨A, c, rfl, h⟩, fun i hi => ⟨hf i hi, h.lt i hi⟩⟩
theorem kII.fr_nil (w : World) (lo hi : Nat) : kII.fr w lo hi (.slice none 0 0) [] := ⟨[.slice none 0 0], [], rfl, ⟨none, 0, rfl, LO.none_⟩, by simp⟩
end Go.Proofs.Ytmckompikbechaa
