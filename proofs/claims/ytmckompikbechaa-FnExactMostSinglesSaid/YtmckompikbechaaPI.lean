/- MostSingles by the program. -/
import Derived.Test.YtmckompikbechaaPH
namespace Go.Proofs.Ytmckompikbechaa
open Go.RowKit Go.Sort
set_option linter.unusedVariables false

def fitE (d : CoD) (f : Nat) : Nat := min (cntF (famE d) f (List.range d.1.length)) (limE d f)
def singF (d : CoD) : Int × Bool := if codeB d then (((min 14 (totF (fitE d)) : Nat) : Int), true) else (0, false)
def mostS (d : CoD) : Nat → Int
  | 0 => 0
  | f + 1 => mostS d f + min (szA d d.1.length f) (d.2.1.getD f 0)
theorem mostS_succ (d : CoD) (f : Nat) : mostS d (f + 1) = mostS d f + min (szA d d.1.length f) (d.2.1.getD f 0) := rfl
theorem mostS_tot {d : CoD} (hd : CodeOk d) : mostS d 5 = (totF (fitE d) : Nat) := by
  have h0 := (limE_eq hd (show 0 < 5 by decide)).1
  have h1 := (limE_eq hd (show 1 < 5 by decide)).1
  have h2 := (limE_eq hd (show 2 < 5 by decide)).1
  have h3 := (limE_eq hd (show 3 < 5 by decide)).1
  have h4 := (limE_eq hd (show 4 < 5 by decide)).1
  unfold totF fitE
  simp only [mostS, szA]
  omega
theorem mostS_bd {d : CoD} (hd : CodeOk d) (f : Nat) (hf : f ≤ 5) : 0 ≤ mostS d f ∧ mostS d f ≤ 9 * f := by
  induction f with
  | zero => exact ⟨Int.le_refl _, Int.le_refl _⟩
  | succ f ih =>
    have := ih (by omega)
    have h1 := (limE_eq hd (show f < 5 by omega)).2
    have h2 := szA_bd d d.1.length f
    rw [mostS_succ]
    omega

set_option maxRecDepth 100000 in
set_option maxHeartbeats 2000000 in
theorem i.MostSingles_law (w : World) (v : Value) (d : CoD) (h : kC.rd w v d) (hok : kC.ok d) :
    Calls Try.prog 32 #[v] w fun e w' => e = .returned (.tuple #[.int .i64 (singF d).1, .bool (singF d).2]) ∧ Ext w w' := by
  obtain ⟨Ac, cc, Al, cl, rfl, _, hll⟩ := kC.lr h
  obtain ⟨F, hF⟩ : ∃ F, Hid (singF d = F) := ⟨_, rfl⟩
  rw [hF.out]
  have FS0 := hide (fun (hd : CodeOk d) (wq : World) (xq : Ext w wq) => i.familySizes_m wq _ d (kC.rd_ext h xq) hd)
  have LI := hide hll
  have a1 := hll.1; have a2 := hll.2.1
  obtain ⟨nc, NC⟩ : ∃ z, Hid (d.1.length = z) := ⟨_, rfl⟩
  obtain ⟨nl, NL⟩ : ∃ z, Hid (d.2.1.length = z) := ⟨_, rfl⟩
  obtain ⟨r, RN⟩ : ∃ z, Hid (d.2.2.1 = z) := ⟨_, rfl⟩
  obtain ⟨b, BN⟩ : ∃ z, Hid (d.2.2.2.1 = z) := ⟨_, rfl⟩
  obtain ⟨p, PN⟩ : ∃ z, Hid (d.2.2.2.2.1 = z) := ⟨_, rfl⟩
  obtain ⟨f, FN⟩ : ∃ z, Hid (d.2.2.2.2.2 = z) := ⟨_, rfl⟩
  have MS0 : Hid (∀ f, mostS d (f + 1) = mostS d f + min (szA d nc f) (d.2.1.getD f 0)) := fun f => by rw [mostS_succ, NC.out]
  have SZ0 : Hid (∀ k f, k ≤ nc → 0 ≤ szA d k f ∧ szA d k f ≤ nc) := fun k f hk => by have := szA_bd d k f; omega
  rw [NC.out, NL.out, RN.out, BN.out, PN.out, FN.out] at h FS0 ⊢
  rw [NL.out] at a1
  obtain ⟨W0, hW0⟩ : ∃ W0, Hid (W0 = w.alloc (.cells #[.slice Ac nc cc, .slice Al nl cl, .int .i64 r, .int .i64 b, .int .i64 p, .int .i64 f] 59)) := ⟨_, rfl⟩
  have X0 : Hid (Ext w W0) := by rw [hW0.out]; exact Ext.alloc w _
  have B0 : Hid (Blk W0 w.heap.size #[.slice Ac nc cc, .slice Al nl cl, .int .i64 r, .int .i64 b, .int .i64 p, .int .i64 f] 59) := by rw [hW0.out]; exact Blk.new rfl _ _
  have CQ := hide (i.IsCode_m W0 _ d (kC.rd_ext h X0.out) hok)
  clear h hok hll
  go_enter Try.func32, Try.ntmps32
  go_wp2_with fail
  rw [← hW0.out]
  clear hW0
  refine CQ.out.mono ?_
  rintro e w1 ⟨rfl, x1⟩
  have X1 := hide (X0.out.trans x1)
  have B1 := hide (B0.out.ext x1)
  clear x1 CQ X0 B0
  cases hc : codeB d
  · have HF : Hid (F = (0, false)) := by show _ = _; rw [← hF.out]; simp [singF, hc]
    clear hc
    go_wp2
    go_ret2
    rw [HF.out]
    exact ⟨rfl, X1.out⟩
  have HC := hide (codeB_ok hc)
  have HF : Hid (F = (((min 14 (totF (fitE d)) : Nat) : Int), true)) := by show _ = _; rw [← hF.out]; simp [singF, hc]
  have FSQ := hide (FS0.out HC.out w1 X1.out)
  have l5 := HC.out.lim
  rw [NL.out] at l5
  subst l5
  have h24 := HC.out.n2
  rw [NC.out] at h24
  clear hc hF FS0
  have cB := B1.out.cell
  go_wp2_with fail
  clear cB
  refine FSQ.out.mono ?_
  rintro e w2 ⟨A2, c2, rfl, o2, x2⟩
  have O2 := hide o2
  have X2 := hide (X1.out.trans x2)
  have B2 := hide (B1.out.ext x2)
  have od1 := o2.capn; have od2 := o2.capm
  obtain ⟨g, rfl, hg1, hg2, _⟩ := OwnI.pos o2 (by omega)
  obtain ⟨bl, ol, rfl, hbl, hcl⟩ := SlI.cells ((LI.out.ext X2.out (Nat.le_refl _)).sl) (by have := HC.out.lim; omega)
  have z2 := X2.out.size
  have CLm := hide hcl
  clear o2 x2 FSQ hcl
  have M0 : Hid (mostS d 0 = 0) := rfl
  go_wp2
  go_loop [4, 13] (fun s i0 => ∃ k : Nat, k ≤ 5 ∧ i0 = .int .i64 k ∧ s = .int .i64 (mostS d k)) (fun _ i0 => 5 - (intOf i0).toNat)
  case atStart => exact ⟨0, Nat.zero_le _, rfl, by rw [M0.out]⟩
  case round =>
    obtain ⟨k, hk, rfl, rfl⟩ := hrel
    have mb := mostS_bd HC.out k hk
    by_cases hlt : k < 5
    · have cK := OwnI.cell O2.out k hlt
      rw [szL_at d nc hlt] at cK
      have cL := CLm.out k (by have := HC.out.lim; omega)
      have lb := (limE_eq HC.out hlt).2
      have sb := SZ0.out nc k (Nat.le_refl _)
      have MS := hide (MS0.out k)
      have cB := B2.out.cell
      generalize szA d nc k = S at *
      generalize d.2.1.getD k 0 = L at *
      generalize mostS d k = M at *
      have i1 : (k : Int) < 5 := by omega
      by_cases hm : L < S
      · have MQ : Hid (mostS d (k + 1) = M + L) := by show _ = _; rw [MS.out]; omega
        have e1 : min S L = L := by omega
        have e2 := hide e1
        clear e1
        go_wp2
        go_round
        case rel => exact ⟨k + 1, by omega, by go_num, by rw [MQ.out]; first | rfl | rw [e2.out]⟩
        case measure => simp [intOf]; omega
      · have MQ : Hid (mostS d (k + 1) = M + S) := by show _ = _; rw [MS.out]; omega
        have e1 : min S L = S := by omega
        have e2 := hide e1
        clear e1
        go_wp2
        go_round
        case rel => exact ⟨k + 1, by omega, by go_num, by rw [MQ.out]; first | rfl | rw [e2.out]⟩
        case measure => simp [intOf]; omega
    · have ek : k = 5 := by omega
      subst ek
      have MT := mostS_tot HC.out
      have TT : Hid (((min 14 (totF (fitE d)) : Nat) : Int) = min (mostS d 5) 14) := by show _ = _; rw [MT]; omega
      clear MT
      generalize mostS d 5 = M at *
      go_wp2
      all_goals
        go_ret2
        rw [HF.out, TT.out]
        exact ⟨by first | (congr 3; omega; done) | (congr 3; done), X2.out⟩
end Go.Proofs.Ytmckompikbechaa
