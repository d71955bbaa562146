/- LeastGrade. -/
import Derived.Test.YtaoeomgehpdedaaGreatRO
namespace Go.Proofs.YtaoeomgehpdedaaGreat
open Go.RowKit Go.Sort
set_option linter.unusedVariables false

def leastFrom (d : CoD) (xs : List ItD) (k : Nat) (pts : Int) : Nat → Int → Int × Bool
  | 0, _ => (0, false)
  | f + 1, g => if pts ≤ baseF d xs k + pointF d xs k [g, g, g] then (g, true) else leastFrom d xs k pts f (g + 1)
def hasK (d : CoD) (xs : List ItD) (k : Int) : Bool := codeB d && itemsB xs && knownB d.1 xs && inB 0 ((xs.length : Int) - 1) k
def leastF (d : CoD) (xs : List ItD) (k pts : Int) : Int × Bool := if hasK d xs k && inB 0 100000 pts then leastFrom d xs k.toNat pts 11 (-5) else (0, false)
theorem hasK_ok {d : CoD} {xs : List ItD} {k : Int} (h : hasK d xs k = true) : CodeOk d ∧ LsOk d xs ∧ ∃ j : Nat, k = j ∧ j < xs.length := by
  simp only [hasK, Bool.and_eq_true] at h
  have h2 := h.2
  simp only [inB, Bool.and_eq_true, decide_eq_true_eq] at h2
  exact ⟨codeB_ok h.1.1.1, lsOk h.1.1.2 h.1.2, k.toNat, by omega, by omega⟩
theorem good3 {g : Int} (h0 : -5 ≤ g) (h1 : g ≤ 5) : goodMarks [g, g, g] = true := by
  simp [goodMarks, inB]
  omega
/-- Three new cells. -/
theorem SlI.three (w : World) (g : Int) (e : TypeId) : SlI (w.alloc (.cells #[.int .i64 g, .int .i64 g, .int .i64 g] e)) (w.heap.size + 1) (some ⟨w.heap.size, 0, none⟩) 3 [g, g, g] := by
  refine ⟨rfl, fun _ => ⟨w.heap.size, 0, rfl, by omega, fun k u hu => ?_⟩⟩
  rcases k with _ | _ | _ | k
  · simp at hu; subst hu; simp [World.cell?_alloc_at]
  · simp at hu; subst hu; simp [World.cell?_alloc_at]
  · simp at hu; subst hu; simp [World.cell?_alloc_at]
  · simp at hu

theorem SlI.three_dr (w : World) (g : Int) (e : TypeId) {w5 : World} (x : Ext (w.alloc (.cells #[.int .i64 g, .int .i64 g, .int .i64 g] e)).drew w5) : SlI w5 (w.heap.size + 1) (some ⟨w.heap.size, 0, none⟩) 3 [g, g, g] := by
  have h : SlI (w.alloc (.cells #[.int .i64 g, .int .i64 g, .int .i64 g] e)).drew (w.heap.size + 1) (some ⟨w.heap.size, 0, none⟩) 3 [g, g, g] := SlI.three w g e
  exact h.ext x (by simp)
set_option maxRecDepth 100000 in
set_option maxHeartbeats 2000000 in
theorem i.hasKnown_m (w : World) (v v1 : Value) (d : CoD) (xs : List ItD) (h : kC.rd w v d) (hok : kC.ok d) (hx : kIt.rd w v1 xs) (hox : kIt.ok xs) (k : Int) (hk : InR k) :
    Calls Tryz.prog 53 #[v, v1, .int .i64 k] w fun e w' => e = .returned (.bool (hasK d xs k)) ∧ Ext w w' := by
  obtain ⟨Ac, nc, cc, Al, nl, cl, r, b, p, f, rfl⟩ := kC.shape h
  obtain ⟨A, c, rfl, hl⟩ := kIt.lr hx
  have HR := hide h
  have a1 := hl.1; have a2 := hl.2.1
  have n1 := kIt.ok_len hox
  have JJ := hide (fun (wq : World) (xq : Ext w wq) => i.areKnown_m wq _ d A c w.heap.size xs (kC.rd_ext HR.out xq) hok (hl.ext xq (Nat.le_refl _)) xq.size n1 (kIt.ok_at hox))
  obtain ⟨W0, hW0⟩ : ∃ W0, Hid (W0 = w.alloc (.cells #[.slice Ac nc cc, .slice Al nl cl, .int .i64 r, .int .i64 b, .int .i64 p, .int .i64 f] 26)) := ⟨_, rfl⟩
  have X0 : Hid (Ext w W0) := by rw [hW0.out]; exact Ext.alloc w _
  obtain ⟨R, hR⟩ : ∃ R, Hid (hasK d xs k = R) := ⟨_, rfl⟩
  rw [hR.out]
  have HI : Hid (R = ((codeB d && itemsB xs && knownB d.1 xs) && inB 0 ((xs.length : Int) - 1) k)) := by show _ = _; rw [← hR.out]; rfl
  clear h hx hl hR
  obtain ⟨n, hn⟩ : ∃ n, Hid (xs.length = n) := ⟨_, rfl⟩
  rw [hn.out] at n1 a1 JJ HI ⊢
  cases hin : inB 0 ((n : Int) - 1) k
  · have HF : Hid (R = false) := by show _ = _; rw [HI.out, hin]; simp
    rw [hW0.out] at X0
    clear HI
    go_enter Tryz.func53, Tryz.ntmps53
    go_wp2_with (go_at_call 60; refine (i.within_any _ _ _ _).mono ?_; rintro e w' ⟨rfl, rfl⟩)
    go_ret
    exact ⟨ret_bool HF.out.symm, X0.out⟩
  rw [hin, Bool.and_true] at HI
  go_enter Tryz.func53, Tryz.ntmps53
  go_wp2_with (go_at_call 60; refine (i.within_any _ _ _ _).mono ?_; rintro e w' ⟨rfl, rfl⟩)
  rw [← hW0.out]
  clear hW0
  refine (JJ.out _ X0.out).mono ?_
  rintro e w1 ⟨rfl, x1⟩
  replace X0 := hide (X0.out.trans x1)
  clear x1
  go_wp2
  go_ret
  exact ⟨ret_bool HI.out.symm, X0.out⟩

set_option maxRecDepth 100000 in
set_option maxHeartbeats 4000000 in
theorem s.LeastGrade_law (w : World) (v v1 : Value) (d : CoD) (xs : List ItD) (k pts : Int) (h : kC.rd w v d) (hok : kC.ok d) (hx : kIt.rd w v1 xs) (hox : kIt.ok xs) (hk : InR k) (hp : InR pts) :
    Calls Tryz.prog 29 #[v, v1, .int .i64 k, .int .i64 pts] w fun e w' => e = .returned (.tuple #[.int .i64 (leastF d xs k pts).1, .bool (leastF d xs k pts).2]) ∧ Ext w w' := by
  obtain ⟨Ac, nc, cc, Al, nl, cl, r, b, p, f, rfl⟩ := kC.shape h
  obtain ⟨A, c, rfl, hl⟩ := kIt.lr hx
  have HR := hide h
  have HL := hide hl
  have a1 := hl.1; have a2 := hl.2.1
  have n1 := kIt.ok_len hox
  have hp1 := hp.1; have hp2 := hp.2
  have JJ := hide (fun (wq : World) (xq : Ext w wq) => s.bsGood_m wq _ d A c w.heap.size xs (kC.rd_ext HR.out xq) hok (hl.ext xq (Nat.le_refl _)) xq.size n1 (kIt.ok_at hox))
  obtain ⟨W0, hW0⟩ : ∃ W0, Hid (W0 = w.alloc (.cells #[.slice Ac nc cc, .slice Al nl cl, .int .i64 r, .int .i64 b, .int .i64 p, .int .i64 f] 26)) := ⟨_, rfl⟩
  have X0 : Hid (Ext w W0) := by rw [hW0.out]; exact Ext.alloc w _
  have B0 : Hid (Blk W0 w.heap.size #[.slice Ac nc cc, .slice Al nl cl, .int .i64 r, .int .i64 b, .int .i64 p, .int .i64 f] 26) := by rw [hW0.out]; exact Blk.new rfl _ _
  obtain ⟨F, hF⟩ : ∃ F, Hid (leastF d xs k pts = F) := ⟨_, rfl⟩
  rw [hF.out]
  clear h hx hl
  obtain ⟨n, hn⟩ : ∃ n, Hid (xs.length = n) := ⟨_, rfl⟩
  rw [hn.out] at n1 a1 JJ ⊢
  go_enter Tryz.func29, Tryz.ntmps29
  go_wp2_with fail
  rw [← hW0.out]
  clear hW0
  refine (JJ.out _ X0.out).mono ?_
  rintro e w1 ⟨rfl, x1⟩
  replace X0 := hide (X0.out.trans x1)
  replace B0 := hide (B0.out.ext x1)
  clear x1
  cases hg : (codeB d && itemsB xs && knownB d.1 xs)
  · have HF : Hid (F = (0, false)) := by show _ = _; rw [← hF.out]; simp [leastF, hasK, hg]
    clear hg
    go_wp2
    go_ret2
    rw [HF.out]
    exact ⟨rfl, X0.out⟩
  cases hin : inB 0 ((n : Int) - 1) k
  · have HF : Hid (F = (0, false)) := by show _ = _; rw [← hF.out]; simp [leastF, hasK, hn.out, hin]
    clear hg
    go_wp2_with (go_at_call 67; refine (s.l1In_any _ _ _ _).mono ?_; rintro e w' ⟨rfl, rfl⟩)
    go_ret2
    rw [HF.out]
    exact ⟨rfl, X0.out⟩
  have hh : hasK d xs k = true := by unfold hasK; rw [hg, hn.out, hin]; rfl
  clear hg
  cases hq : inB 0 100000 pts
  · have HF : Hid (F = (0, false)) := by show _ = _; rw [← hF.out]; simp [leastF, hq]
    clear hh
    go_wp2_with (go_at_call 67; refine (s.l1In_any _ _ _ _).mono ?_; rintro e w' ⟨rfl, rfl⟩)
    go_ret2
    rw [HF.out]
    exact ⟨rfl, X0.out⟩
  obtain ⟨hd, ho, j, rfl, hjn⟩ := hasK_ok hh
  have HF : Hid (F = leastFrom d xs j pts 11 (-5)) := by show _ = _; rw [← hF.out]; simp [leastF, hh, hq]
  have h14 := ho.n
  have HD := hide hd
  have HO := hide ho
  have HJN := hide hjn
  rw [hn.out] at h14 hjn
  clear hh hd ho hF
  go_wp2_with (go_at_call 67; refine (s.l1In_any _ _ _ _).mono ?_; rintro e w' ⟨rfl, rfl⟩)
  clear hq hin
  have LF0 : ∀ g : Int, leastFrom d xs j pts 0 g = (0, false) := fun _ => rfl
  have LFS : ∀ (q : Nat) (g : Int), leastFrom d xs j pts (q + 1) g = if pts ≤ baseF d xs j + pointF d xs j [g, g, g] then (g, true) else leastFrom d xs j pts q (g + 1) := fun _ _ => rfl
  have L0 := hide LF0
  have LS := hide LFS
  clear LF0 LFS
  go_loopw [10] (fun gv wr => ∃ (q : Nat) (g : Int), q ≤ 11 ∧ g = 6 - q ∧ gv = .int .i64 g ∧ Hid (F = leastFrom d xs j pts q g) ∧ Ext w1 wr) (fun gv _ => (6 - intOf gv).toNat)
  case atStart => exact ⟨11, -5, Nat.le_refl _, rfl, rfl, HF, Ext.refl _⟩
  case round =>
    obtain ⟨q, g, hq, hg, rfl, HFQ, hx⟩ := hrel
    have HX := hide hx
    have hg2 : g ≤ 6 - q ∧ 6 - q ≤ g := by omega
    clear hx hg
    cases q with
    | zero =>
      have HE : Hid (F = (0, false)) := by show _ = _; rw [HFQ.out]; exact L0.out g
      have g6 : (6 : Int) ≤ g := by omega
      clear hg2
      go_wp2
      go_ret2
      rw [HE.out]
      exact ⟨rfl, X0.out.trans HX.out⟩
    | succ q =>
      have g0 : -5 ≤ g := by omega
      have g5 : g ≤ 5 := by omega
      have FSU : Hid (F = if pts ≤ baseF d xs j + pointF d xs j [g, g, g] then (g, true) else leastFrom d xs j pts q (g + 1)) := by show _ = _; rw [HFQ.out]; exact LS.out q g
      have bb := baseF_bd HD.out HO.out j
      have pb := pointF_bd HD.out xs j (good3 g0 g5)
      have q5 : (g : Int) = 5 - q := by omega
      have Q5 := hide q5
      clear q5 hg2
      have PO := hide (fun (wq : World) (xq : Ext w1 wq) => s.elOf_m (wq.alloc (.cells #[.int .i64 g, .int .i64 g, .int .i64 g] 3)) _ d A c (wq.heap.size + 1) xs j (some ⟨wq.heap.size, 0, none⟩) 3 3 [g, g, g] (kC.rd_ext HR.out ((X0.out.trans xq).trans (Ext.alloc _ _))) hok HD.out ((HL.out.ext ((X0.out.trans xq).trans (Ext.alloc _ _)) (Nat.le_refl _)).more (by have := (X0.out.trans xq).size; omega)) (by simp) HO.out HJN.out (SlI.three wq g _) (good3 g0 g5))
      rw [hn.out] at PO
      have CQ := hide (PO.out wr HX.out)
      have cB := (B0.out.ext HX.out).cell
      generalize hZP : baseF d xs j + pointF d xs j [g, g, g] = Q at *
      clear hZP bb pb
      go_wp2_with fail
      clear cB
      refine CQ.out.mono ?_
      rintro e w2 ⟨rfl, x2⟩
      have Y2 := hide ((HX.out.trans (Ext.alloc _ _)).trans x2)
      clear x2 CQ
      by_cases hge : pts ≤ Q
      · have HE : Hid (F = (g, true)) := by show _ = _; rw [FSU.out, if_pos hge]
        go_wp2
        go_ret2
        rw [HE.out]
        exact ⟨rfl, X0.out.trans Y2.out⟩
      · have HE : Hid (F = leastFrom d xs j pts q (g + 1)) := by show _ = _; rw [FSU.out, if_neg hge]
        go_wp2
        go_roundw
        case rel => exact ⟨q, g + 1, by omega, by have := Q5.out; omega, rfl, HE, Y2.out⟩
        case measure => simp [intOf]; omega

set_option maxRecDepth 100000 in
set_option maxHeartbeats 4000000 in
theorem i.LeastGrade_law (w : World) (v v1 : Value) (d : CoD) (xs : List ItD) (k pts : Int) (h : kC.rd w v d) (hok : kC.ok d) (hx : kIt.rd w v1 xs) (hox : kIt.ok xs) (hk : InR k) (hp : InR pts) :
    Calls Tryz.prog 28 #[v, v1, .int .i64 k, .int .i64 pts] w fun e w' => e = .returned (.tuple #[.int .i64 (leastF d xs k pts).1, .bool (leastF d xs k pts).2]) ∧ Ext w w' := by
  obtain ⟨Ac, nc, cc, Al, nl, cl, r, b, p, f, rfl⟩ := kC.shape h
  obtain ⟨A, c, rfl, hl⟩ := kIt.lr hx
  have HR := hide h
  have HL := hide hl
  have a1 := hl.1; have a2 := hl.2.1
  have n1 := kIt.ok_len hox
  have hp1 := hp.1; have hp2 := hp.2
  have JJ := hide (fun (wq : World) (xq : Ext w wq) => i.hasKnown_m wq _ _ d xs (kC.rd_ext HR.out xq) hok (kIt.rd_ext hx xq) hox k hk)
  obtain ⟨W0, hW0⟩ : ∃ W0, Hid (W0 = w.alloc (.cells #[.slice Ac nc cc, .slice Al nl cl, .int .i64 r, .int .i64 b, .int .i64 p, .int .i64 f] 26)) := ⟨_, rfl⟩
  have X0 : Hid (Ext w W0) := by rw [hW0.out]; exact Ext.alloc w _
  have B0 : Hid (Blk W0 w.heap.size #[.slice Ac nc cc, .slice Al nl cl, .int .i64 r, .int .i64 b, .int .i64 p, .int .i64 f] 26) := by rw [hW0.out]; exact Blk.new rfl _ _
  obtain ⟨F, hF⟩ : ∃ F, Hid (leastF d xs k pts = F) := ⟨_, rfl⟩
  rw [hF.out]
  clear h hx hl
  obtain ⟨n, hn⟩ : ∃ n, Hid (xs.length = n) := ⟨_, rfl⟩
  rw [hn.out] at n1 a1 JJ ⊢
  go_enter Tryz.func28, Tryz.ntmps28
  go_wp2_with fail
  rw [← hW0.out]
  clear hW0
  refine (JJ.out _ X0.out).mono ?_
  rintro e w1 ⟨rfl, x1⟩
  replace X0 := hide (X0.out.trans x1)
  replace B0 := hide (B0.out.ext x1)
  clear x1
  cases hh : hasK d xs k
  · have HF : Hid (F = (0, false)) := by show _ = _; rw [← hF.out]; simp [leastF, hh]
    clear hh
    go_wp2
    go_ret2
    rw [HF.out]
    exact ⟨rfl, X0.out⟩
  cases hq : inB 0 100000 pts
  · have HF : Hid (F = (0, false)) := by show _ = _; rw [← hF.out]; simp [leastF, hq]
    clear hh
    go_wp2_with (go_at_call 60; refine (i.within_any _ _ _ _).mono ?_; rintro e w' ⟨rfl, rfl⟩)
    go_ret2
    rw [HF.out]
    exact ⟨rfl, X0.out⟩
  obtain ⟨hd, ho, j, rfl, hjn⟩ := hasK_ok hh
  have HF : Hid (F = leastFrom d xs j pts 11 (-5)) := by show _ = _; rw [← hF.out]; simp [leastF, hh, hq]
  have h14 := ho.n
  have HD := hide hd
  have HO := hide ho
  have HJN := hide hjn
  rw [hn.out] at h14 hjn
  clear hh hd ho hF
  go_wp2_with (go_at_call 60; refine (i.within_any _ _ _ _).mono ?_; rintro e w' ⟨rfl, rfl⟩)
  clear hq
  have LF0 : ∀ g : Int, leastFrom d xs j pts 0 g = (0, false) := fun _ => rfl
  have LFS : ∀ (q : Nat) (g : Int), leastFrom d xs j pts (q + 1) g = if pts ≤ baseF d xs j + pointF d xs j [g, g, g] then (g, true) else leastFrom d xs j pts q (g + 1) := fun _ _ => rfl
  have L0 := hide LF0
  have LS := hide LFS
  clear LF0 LFS
  go_loopw [10] (fun gv wr => ∃ (q : Nat) (g : Int), q ≤ 11 ∧ g = 6 - q ∧ gv = .int .i64 g ∧ Hid (F = leastFrom d xs j pts q g) ∧ Ext w1 wr) (fun gv _ => (6 - intOf gv).toNat)
  case atStart => exact ⟨11, -5, Nat.le_refl _, rfl, rfl, HF, Ext.refl _⟩
  case round =>
    obtain ⟨q, g, hq, hg, rfl, HFQ, hx⟩ := hrel
    have HX := hide hx
    have hg2 : g ≤ 6 - q ∧ 6 - q ≤ g := by omega
    clear hx hg
    cases q with
    | zero =>
      have HE : Hid (F = (0, false)) := by show _ = _; rw [HFQ.out]; exact L0.out g
      have g6 : (6 : Int) ≤ g := by omega
      clear hg2
      go_wp2
      go_ret2
      rw [HE.out]
      exact ⟨rfl, X0.out.trans HX.out⟩
    | succ q =>
      have g0 : -5 ≤ g := by omega
      have g5 : g ≤ 5 := by omega
      have FSU : Hid (F = if pts ≤ baseF d xs j + pointF d xs j [g, g, g] then (g, true) else leastFrom d xs j pts q (g + 1)) := by show _ = _; rw [HFQ.out]; exact LS.out q g
      have bb := baseF_bd HD.out HO.out j
      have pb := pointF_bd HD.out xs j (good3 g0 g5)
      have q5 : (g : Int) = 5 - q := by omega
      have Q5 := hide q5
      clear q5 hg2
      have IB := hide (fun (wq : World) (xq : Ext wr wq) => i.itemBase_m wq _ d A c w.heap.size xs j (kC.rd_ext HR.out ((X0.out.trans HX.out).trans xq)) hok HD.out (HL.out.ext ((X0.out.trans HX.out).trans xq) (Nat.le_refl _)) ((X0.out.trans HX.out).trans xq).size HO.out HJN.out)
      have PO := hide (fun (wq : World) (xq : Ext wr wq) (B : Nat) (G : Option Addr) (hB : B ≤ wq.heap.size) (hwB : w.heap.size ≤ B) (hs : SlI wq B G 3 [g, g, g]) => i.pointsFor_m wq _ d A c B xs j G 3 3 [g, g, g] (kC.rd_ext HR.out ((X0.out.trans HX.out).trans xq)) hok HD.out ((HL.out.ext ((X0.out.trans HX.out).trans xq) (Nat.le_refl _)).more hwB) hB HO.out HJN.out hs (good3 g0 g5))
      rw [hn.out] at IB PO
      have cB := (B0.out.ext HX.out).cell
      have cBa := ((B0.out.ext HX.out).alloc (.cells #[.int .i64 g, .int .i64 g, .int .i64 g] 3)).cell
      have zz := (X0.out.trans HX.out).size
      generalize baseF d xs j = Z at *
      generalize pointF d xs j [g, g, g] = P at *
      have kw : IntKind.i64.wrap (Z + P) = Z + P := IntWalk.i64_in _ (by omega)
      go_wp2
      by_cases hge : pts ≤ Z + P
      case pos =>
        have HE : Hid (F = (g, true)) := by show _ = _; rw [FSU.out, if_pos hge]
        go_region_law (first
          | (go_simp; go_at_call 54; refine (IB.out _ (by first | exact (Ext.alloc wr _).trans (Ext.drew _) | exact (Ext.drew wr).trans (Ext.alloc _ _) | exact Ext.drew wr)).mono ?_; rintro e w5 ⟨rfl, x5⟩; have B5 := (by first | exact hide (B0.out.ext (HX.out.trans (((Ext.alloc wr _).trans (Ext.drew _)).trans x5))) | exact hide (B0.out.ext (HX.out.trans (((Ext.drew wr).trans (Ext.alloc _ _)).trans x5))) | exact hide (B0.out.ext (HX.out.trans ((Ext.drew wr).trans x5)))); have c5_ := B5.out.cell; have c5a := (B5.out.alloc (.cells #[.int .i64 g, .int .i64 g, .int .i64 g] 3)).cell; have X5 := hide x5; have XW5 : Hid (Ext wr w5) := (by first | exact ((Ext.alloc wr _).trans (Ext.drew _)).trans x5 | exact ((Ext.drew wr).trans (Ext.alloc _ _)).trans x5 | exact (Ext.drew wr).trans x5); have zz5 := XW5.out.size; clear x5)
          | (go_simp; go_at_call 50; (first | (with_reducible refine (PO.out _ (XW5.out.trans (Ext.alloc _ _)) (w5.heap.size + 1) _ (by simp) (by omega) (SlI.three w5 g _)).mono ?_) | (with_reducible refine (PO.out w5 XW5.out (wr.heap.size + 1) (some ⟨wr.heap.size, 0, none⟩) (by have := X5.out.size; simp at this; omega) (by omega) (SlI.three_dr wr g _ X5.out)).mono ?_)); rintro e w6 ⟨rfl, x6⟩; have Y6 : Hid (Ext wr w6) := (by first | exact (XW5.out.trans (Ext.alloc _ _)).trans x6 | exact XW5.out.trans x6); clear x6))
        all_goals
          clear kw
          go_wp2
          go_ret2
          rw [HE.out]
          exact ⟨rfl, X0.out.trans (HX.out.trans Y6.out)⟩
      case neg =>
        have HE : Hid (F = leastFrom d xs j pts q (g + 1)) := by show _ = _; rw [FSU.out, if_neg hge]
        go_region_law (first
          | (go_simp; go_at_call 54; refine (IB.out _ (by first | exact (Ext.alloc wr _).trans (Ext.drew _) | exact (Ext.drew wr).trans (Ext.alloc _ _) | exact Ext.drew wr)).mono ?_; rintro e w5 ⟨rfl, x5⟩; have B5 := (by first | exact hide (B0.out.ext (HX.out.trans (((Ext.alloc wr _).trans (Ext.drew _)).trans x5))) | exact hide (B0.out.ext (HX.out.trans (((Ext.drew wr).trans (Ext.alloc _ _)).trans x5))) | exact hide (B0.out.ext (HX.out.trans ((Ext.drew wr).trans x5)))); have c5_ := B5.out.cell; have c5a := (B5.out.alloc (.cells #[.int .i64 g, .int .i64 g, .int .i64 g] 3)).cell; have X5 := hide x5; have XW5 : Hid (Ext wr w5) := (by first | exact ((Ext.alloc wr _).trans (Ext.drew _)).trans x5 | exact ((Ext.drew wr).trans (Ext.alloc _ _)).trans x5 | exact (Ext.drew wr).trans x5); have zz5 := XW5.out.size; clear x5)
          | (go_simp; go_at_call 50; (first | (with_reducible refine (PO.out _ (XW5.out.trans (Ext.alloc _ _)) (w5.heap.size + 1) _ (by simp) (by omega) (SlI.three w5 g _)).mono ?_) | (with_reducible refine (PO.out w5 XW5.out (wr.heap.size + 1) (some ⟨wr.heap.size, 0, none⟩) (by have := X5.out.size; simp at this; omega) (by omega) (SlI.three_dr wr g _ X5.out)).mono ?_)); rintro e w6 ⟨rfl, x6⟩; have Y6 : Hid (Ext wr w6) := (by first | exact (XW5.out.trans (Ext.alloc _ _)).trans x6 | exact XW5.out.trans x6); clear x6))
        all_goals
          clear kw
          go_wp2
          go_roundw
          case rel => exact ⟨q, g + 1, by omega, by have := Q5.out; omega, rfl, HE, HX.out.trans Y6.out⟩
          case measure => simp [intOf]; omega
end Go.Proofs.YtaoeomgehpdedaaGreat
