/- A replaced item's gain: the program's function; the reference's parts. -/
import Derived.Test.YteachljlnekkgaaGreatZN
import Derived.Deep.RegionHeld3
namespace Go.Proofs.YteachljlnekkgaaGreat
open Go.RowKit Go.Sort
set_option linter.unusedVariables false

theorem nmLen {s : List UInt8} (h : nameB s = true) : s.length ≤ 5 := by
  simp only [nameB, inB, Bool.and_eq_true, decide_eq_true_eq] at h
  omega
theorem wtL_most {α : Type} (K : Kd α) (m : Nat) : ∀ (xs : List α), (∀ x ∈ xs, K.wt x ≤ m) → wtL K xs ≤ xs.length * (1 + m)
  | [], _ => Nat.zero_le _
  | x :: t, h => by
    have h1 := wtL_most K m t (fun y hy => h y (by simp [hy]))
    have h2 := h x (by simp)
    show 1 + K.wt x + wtL K t ≤ (t.length + 1) * (1 + m)
    rw [Nat.add_mul]
    omega
theorem itWt {x : ItD} (h : itemB x = true) : kdItem.wt x ≤ 21 := by
  have h0 := h
  obtain ⟨h1, h2, h3⟩ := itemB_ok h
  simp only [itemB, Bool.and_eq_true, List.all_eq_true] at h
  have h4 : kdSS.wt x.1 ≤ x.1.length * (1 + 5) := wtL_most kdS 5 x.1 (fun y hy => by have := nmLen (h.1.1.1 y hy); exact this)
  have h5 : kdL.wt x.2.1 = x.2.1.length := wtL_int _
  rw [kdItem.wt_eq]
  omega
theorem itsWt {xs : List ItD} (h : itemsB xs = true) : xs.length ≤ 14 ∧ wtL kdItem xs ≤ 308 := by
  simp only [itemsB, Bool.and_eq_true, List.all_eq_true, decide_eq_true_eq] at h
  have h1 := wtL_most kdItem 21 xs (fun x hx => itWt (h.1 x hx))
  have h2 : xs.length ≤ 14 := by omega
  omega
theorem itemB_one {nm : List UInt8} (h : nameB nm = true) : itemB (oneI nm) = true := by
  simp [itemB, oneI, h, inB]
theorem itemsB_set {xs : List ItD} {k : Nat} {y : ItD} (h : itemsB xs = true) (hy : itemB y = true) : itemsB (xs.set k y) = true := by
  simp only [itemsB, Bool.and_eq_true, List.all_eq_true, decide_eq_true_eq, List.length_set] at h ⊢
  refine ⟨fun x hx => ?_, h.2⟩
  rcases List.mem_or_eq_of_mem_set hx with hm | rfl
  · exact h.1 x hm
  · exact hy
theorem lateL_get (xs : List ItD) (i : Nat) (h : i < xs.length) : (lateL xs)[i]? = some (lateD xs.length i xs[i]) := lateL_at xs i h
theorem itemsB_late {xs : List ItD} (h : itemsB xs = true) : itemsB (lateL xs) = true := by
  simp only [itemsB, Bool.and_eq_true, List.all_eq_true, decide_eq_true_eq] at h ⊢
  refine ⟨fun x hx => ?_, by rw [lateL_len]; exact h.2⟩
  obtain ⟨i, hi⟩ := List.getElem?_of_mem hx
  have hl : i < xs.length := by have := (List.getElem?_eq_some_iff.1 hi).1; rwa [lateL_len] at this
  rw [lateL_get xs i hl] at hi
  injection hi with hi
  subst hi
  have := h.1 _ (List.getElem_mem hl)
  exact this
theorem itemsB_repl {xs : List ItD} {k : Nat} {nm : List UInt8} (h : itemsB xs = true) (hn : nameB nm = true) : itemsB (replL xs k nm) = true := itemsB_late (itemsB_set h (itemB_one hn))
theorem itemsB_wt1 {xs : List ItD} (h : itemsB xs = true) : wtL kdItem xs ≤ 1048576 := by have := itsWt h; omega
theorem bases_small {d : CoD} {xs : List ItD} (hd : CodeOk d) (ho : LsOk d xs) : Small (basesF d xs) := fun z hz => by
  have := basesN_bd hd ho xs.length z hz
  omega
theorem bases_sum {d : CoD} {xs : List ItD} (hd : CodeOk d) (ho : LsOk d xs) : 0 ≤ (basesF d xs).sum ∧ (basesF d xs).sum ≤ 140000 := by
  have h : ∀ (zs : List Int), (∀ z ∈ zs, 0 ≤ z ∧ z ≤ 10000) → 0 ≤ zs.sum ∧ zs.sum ≤ 10000 * (zs.length : Int) := by
    intro zs
    induction zs with
    | nil => intro _; simp
    | cons z t ih =>
      intro h
      have h1 := h z (by simp)
      have h2 := ih (fun y hy => h y (by simp [hy]))
      rw [List.sum_cons, List.length_cons]
      omega
  have h1 := h _ (basesN_bd hd ho xs.length)
  rw [basesN_len] at h1
  have := ho.n
  unfold basesF
  omega
theorem progB_ls {d : CoD} {xs : List ItD} (h : progB d xs = true) : LsOk d xs := lsOk (progB_code h).2 (progB_known h)
def gainR (d : CoD) (xs : List ItD) (k : Nat) (nm : List UInt8) : Int × Bool := if progB d (replL xs k nm) then (gainV d xs (replL xs k nm), true) else (0, false)

set_option maxRecDepth 100000 in
set_option maxHeartbeats 4000000 in
theorem i.replaceGain_m (w : World) (v : Value) (d : CoD) (A : Option Addr) (c B : Nat) (xs : List ItD) (k : Nat) (x : ElD) (h : kC.rd w v d) (hok : kC.ok d) (hi : LR kdItem w B A c xs) (hB : B ≤ w.heap.size) (hp : progB d xs = true) (hk : k < xs.length) (hx : nameB x.1 = true) :
    Calls Tryz.prog 35 #[v, .slice A xs.length c, .int .i64 k, .agg #[.string (bs x.1), .int .i64 x.2.1, .int .i64 x.2.2.1, .int .i64 x.2.2.2]] w fun e w' => e = .returned (.tuple #[.int .i64 (gainR d xs k x.1).1, .bool (gainR d xs k x.1).2]) ∧ Ext w w' := by
  obtain ⟨Ac, nc, cc, Al, nl, cl, rr, b, p, f, rfl⟩ := kC.shape h
  have a1 := hi.1; have a2 := hi.2.1
  have hc := progB_code hp
  have HCD := hide (codeB_ok hc.1)
  have h14 := (progB_ls hp).n
  have nl5 := nmLen hx
  obtain ⟨W0, hW0⟩ : ∃ W0, Hid (W0 = (w.alloc (.cells #[.slice Ac nc cc, .slice Al nl cl, .int .i64 rr, .int .i64 b, .int .i64 p, .int .i64 f] 33)).alloc (.cells #[.string (bs x.1), .int .i64 x.2.1, .int .i64 x.2.2.1, .int .i64 x.2.2.2] 65)) := ⟨_, rfl⟩
  have X0 : Hid (Ext w W0) := by rw [hW0.out]; exact (Ext.alloc w _).trans (Ext.alloc _ _)
  have B0 : Hid (Blk W0 w.heap.size #[.slice Ac nc cc, .slice Al nl cl, .int .i64 rr, .int .i64 b, .int .i64 p, .int .i64 f] 33) := by rw [hW0.out]; exact (Blk.new rfl _ _).alloc _
  have B1 : Hid (Blk W0 (w.heap.size + 1) #[.string (bs x.1), .int .i64 x.2.1, .int .i64 x.2.2.1, .int .i64 x.2.2.2] 65) := by rw [hW0.out]; exact Blk.new (by simp) _ _
  have zW := X0.out.size
  have z0 : w.heap.size + 1 < W0.heap.size := B1.out.lt
  have CI := hide (i.copyItems_any W0 A c B xs (hi.ext X0.out hB) (Nat.le_trans hB zW) (itemsB_wt1 hc.2))
  have SI := hide (fun (wq : World) => i.singleItem_m wq x (by omega))
  have IR := hide (itemsB_repl (k := k) hc.2 hx)
  have IS := hide (itemsB_set (k := k) hc.2 (itemB_one hx))
  have ML := hide (fun (wq : World) (A9 : Option Addr) (c9 : Nat) (h9 : LR kdItem wq wq.heap.size A9 c9 (xs.set k (oneI x.1))) => i.markLate_m wq A9 c9 wq.heap.size _ h9 (Nat.le_refl _) (itemsB_wt1 IS.out))
  have PG := hide (fun (wq : World) (xq : Ext w wq) (A9 : Option Addr) (c9 : Nat) (h9 : LR kdItem wq wq.heap.size A9 c9 (replL xs k x.1)) => i.isProgramme_m wq _ d A9 c9 wq.heap.size _ (kC.rd_ext h xq) hok h9 (Nat.le_refl _) (itemsB_wt1 IR.out))
  have BV := hide (fun (wq : World) (xq : Ext w wq) => i.baseValues_m wq _ d A c B xs (kC.rd_ext h xq) hok HCD.out (hi.ext xq hB) (Nat.le_trans hB xq.size) (progB_ls hp))
  have BR := hide (fun (hq : progB d (replL xs k x.1) = true) (wq wo : World) (xq : Ext w wq) (A9 : Option Addr) (c9 : Nat) (h9 : LR kdItem wo wo.heap.size A9 c9 (replL xs k x.1)) (xo : Ext wo wq) => i.baseValues_m wq _ d A9 c9 wo.heap.size _ (kC.rd_ext h xq) hok HCD.out (h9.ext xo (Nat.le_refl _)) xo.size (progB_ls hq))
  have SB := hide (bases_small HCD.out (progB_ls hp))
  have UB := bases_sum HCD.out (progB_ls hp)
  have SR := hide (fun (hq : progB d (replL xs k x.1) = true) => bases_small HCD.out (progB_ls hq))
  have UR := hide (fun (hq : progB d (replL xs k x.1) = true) => bases_sum HCD.out (progB_ls hq))
  have RL := hide (replL_len xs k x.1)
  have GE : Hid (gainR d xs k x.1 = if progB d (replL xs k x.1) then (gainV d xs (replL xs k x.1), true) else (0, false)) := rfl
  have GV : Hid (gainV d xs (replL xs k x.1) = (basesF d (replL xs k x.1)).sum - (basesF d xs).sum) := rfl
  have RD : Hid (lateL (xs.set k (oneI x.1)) = replL xs k x.1) := rfl
  have SL : Hid ((xs.set k (oneI x.1)).length = xs.length) := List.length_set
  have GX : ∃ y, xs[k]? = some y := ⟨_, List.getElem?_eq_getElem hk⟩
  obtain ⟨y, hy⟩ := GX
  have HY := hide hy
  clear h hi hy hc hp hx nl5
  obtain ⟨F, hF⟩ : ∃ F, Hid (gainR d xs k x.1 = F) := ⟨_, rfl⟩
  rw [hF.out] at GE ⊢
  obtain ⟨n, hn⟩ : ∃ n, Hid (xs.length = n) := ⟨_, rfl⟩
  rw [SL.out] at ML
  rw [RL.out] at PG BR
  rw [hn.out] at a1 h14 hk CI ML PG BV BR ⊢
  obtain ⟨R, hR⟩ : ∃ R, Hid (replL xs k x.1 = R) := ⟨_, rfl⟩
  rw [RD.out] at ML
  rw [hR.out] at ML PG BR SR UR GE GV
  generalize bs x.1 = xb at *
  generalize x.2.1 = y1 at *
  generalize x.2.2.1 = y2 at *
  generalize x.2.2.2 = y3 at *
  go_enter Tryz.func35, Tryz.ntmps35
  go_wp2_with fail
  rw [← hW0.out]
  clear hW0
  refine CI.out.mono ?_
  rintro e w1 ⟨A1, c1, fp, rfl, ho1, hf1, x1⟩
  have X1 := hide (X0.out.trans x1)
  have C1 := hide (B0.out.ext x1)
  have E1 := hide (B1.out.ext x1)
  have z1 := x1.size
  have HO1 := hide ho1
  have HF1 := hide hf1
  clear x1 ho1 hf1 CI B0 B1
  have cE := E1.out.cell
  go_wp2_with fail
  refine (SI.out w1).mono ?_
  rintro e w2 ⟨A2, A3, f2, rfl, ho2, hf2, x2⟩
  have z2 := x2.size
  obtain ⟨g, rfl, mem, glt, free, ⟨u0, u1, u2, q0, q1, q2⟩, put⟩ := LO.swap3 rfl (HO1.out.ext x2) k y HY.out
  obtain ⟨fp2, ho3, hfp2⟩ := put w2 (.slice A2 1 1) (.slice A3 1 1) (.bool false) (oneI x.1) f2 ho2 (fun _ _ => rfl) (fun i hi hm => by have h8 := hf2 i hi; have h9 := HO1.out.lt i hm; omega)
  have gw := HF1.out g mem
  have F3 : Hid (∀ i ∈ fp2, w.heap.size ≤ i) := fun i hi => by
    rcases hfp2 i hi with h | h
    · have := HF1.out i h; omega
    · have := hf2 i h; omega
  have X3 : Hid (Ext w (((w2.setCell ⟨g, k * 3, none⟩ (.slice A2 1 1)).setCell ⟨g, k * 3 + 1, none⟩ (.slice A3 1 1)).setCell ⟨g, k * 3 + 2, none⟩ (.bool false))) := Below.setCell (Below.setCell (Below.setCell (X1.out.trans x2) (by simp; omega) _) (by simp; omega) _) (by simp; omega) _
  have C3 : Hid (Blk (((w2.setCell ⟨g, k * 3, none⟩ (.slice A2 1 1)).setCell ⟨g, k * 3 + 1, none⟩ (.slice A3 1 1)).setCell ⟨g, k * 3 + 2, none⟩ (.bool false)) w.heap.size #[.slice Ac nc cc, .slice Al nl cl, .int .i64 rr, .int .i64 b, .int .i64 p, .int .i64 f] 33) := (((C1.out.ext x2).far (by simp; omega) _).far (by simp; omega) _).far (by simp; omega) _
  have cap := ho3.cap
  rw [SL.out, hn.out] at cap
  have ca1 := cap.1; have ca2 := cap.2
  have HO3 := hide ho3
  have f0 := free (k * 3); have f1 := free (k * 3 + 1); have f3 := free (k * 3 + 2)
  have ik : (k : Int) < n := by omega
  clear x2 ho2 hf2 put hfp2 ho3 mem cE SI E1 C1 free cap
  go_wp2_with fail
  generalize ((w2.setCell ⟨g, k * 3, none⟩ (.slice A2 1 1)).setCell ⟨g, k * 3 + 1, none⟩ (.slice A3 1 1)).setCell ⟨g, k * 3 + 2, none⟩ (.bool false) = w3 at *
  clear q0 q1 q2 f0 f1 f3
  refine (ML.out w3 (some ⟨g, 0, none⟩) c1 HO3.out.rd).mono ?_
  rintro e w4 ⟨A4, c4, fp4, rfl, ho4, hf4, x4⟩
  have HL4 := hide ho4.rd
  have X4 := hide (X3.out.trans x4)
  have C4 := hide (C3.out.ext x4)
  have cap := ho4.cap
  clear x4 ho4 hf4 ML C3
  have cC := C4.out.cell
  have cb1 : n ≤ c4 := by have := cap.1; rw [← hR.out, RL.out, hn.out] at this; exact this
  have cb2 := cap.2
  clear cap
  go_wp2_with fail
  refine (PG.out w4 X4.out A4 c4 HL4.out).mono ?_
  rintro e w5 ⟨rfl, x5⟩
  have X5 := hide (X4.out.trans x5)
  have C5 := hide (C4.out.ext x5)
  have Y5 := hide x5
  clear x5 PG cC
  cases hq : progB d R
  · have HF : Hid (F = (0, false)) := by show _ = _; rw [GE.out, hq]; rfl
    clear hq BR SR UR GE GV
    go_wp2
    go_ret2
    rw [HF.out]
    exact ⟨rfl, X5.out⟩
  have HF : Hid (F = ((basesF d R).sum - (basesF d xs).sum, true)) := by show _ = _; rw [GE.out, hq, ← GV.out]; rfl
  have BQ := hide (fun (wq : World) (xq : Ext w5 wq) => BR.out hq wq w4 (X5.out.trans xq) A4 c4 HL4.out (Y5.out.trans xq))
  have BP := hide (fun (wq : World) (xq : Ext w5 wq) => BV.out wq (X5.out.trans xq))
  have SQ := hide (SR.out hq)
  have UQ := UR.out hq
  clear hq BR SR UR GE GV BV
  have QO := hide (fun (A9 : Option Addr) (c9 : Nat) (wq wo : World) (lo : Nat) (h9 : OwnI 3 wo lo A9 n c9 (basesF d R)) (xq : Ext wo wq) => i.sumInts_any A9 n c9 wo.heap.size _ wq (h9.sl.ext xq (Nat.le_refl _)) (by omega) SQ.out)
  have PO := hide (fun (A9 : Option Addr) (c9 : Nat) (wq wo : World) (lo : Nat) (h9 : OwnI 3 wo lo A9 n c9 (basesF d xs)) (xq : Ext wo wq) => i.sumInts_any A9 n c9 wo.heap.size _ wq (h9.sl.ext xq (Nat.le_refl _)) (by omega) SB.out)
  generalize (basesF d R).sum = s1 at *
  generalize (basesF d xs).sum = s2 at *
  have kw : IntKind.i64.wrap (s1 - s2) = s1 - s2 := IntWalk.i64_in _ (by omega)
  have cC := C5.out.cell
  go_wp2_with fail
  go_region_held3 (fun w' => ∀ i, w'.cell? ⟨w.heap.size, i, none⟩ = #[Value.slice Ac nc cc, .slice Al nl cl, .int .i64 rr, .int .i64 b, .int .i64 p, .int .i64 f][i]?)
    (first | with_reducible exact (C5.out.ext Y8.out).cell | with_reducible exact (C5.out.ext Y6.out).cell | with_reducible exact (C5.out.ext (Ext.drew _)).cell)
    (first | (go_at_call 65; refine (PO.out A8 c8 w8 w8 _ O8.out (Ext.refl _)).mono ?_; rintro e w9 ⟨rfl, rfl⟩) | (go_at_call 66; refine (BP.out w6 Y6.out).mono ?_; rintro e w8 ⟨A8, c8, rfl, o8, x8⟩; have O8 := hide o8; have Y8 := hide (Y6.out.trans x8); clear o8 x8) | (go_at_call 65; refine (QO.out A6 c6 w6 w6 _ O6.out (Ext.refl _)).mono ?_; rintro e w7 ⟨rfl, rfl⟩) | (go_at_call 66; refine (BQ.out w5.drew (Ext.drew _)).mono ?_; rintro e w6 ⟨A6, c6, rfl, o6, x6⟩; have O6 := hide o6; have Y6 := hide ((Ext.drew w5).trans x6); clear o6 x6))
  go_wp2
  go_ret2
  rw [HF.out]
  exact ⟨rfl, X5.out.trans Y8.out⟩

set_option maxRecDepth 100000 in
set_option maxHeartbeats 2000000 in
theorem s.pnBase_m (w : World) (v : Value) (d : CoD) (A : Option Addr) (c B : Nat) (xs : List ItD) (h : kC.rd w v d) (hok : kC.ok d) (hi : LR kdItem w B A c xs) (hB : B ≤ w.heap.size) (hd : CodeOk d) (ho : LsOk d xs) :
    Calls Tryz.prog 28 #[v, .slice A xs.length c] w fun e w' => e = .returned (.int .i64 (basesF d xs).sum) ∧ Ext w w' := by
  obtain ⟨Ac, nc, cc, Al, nl, cl, rr, b, p, f, rfl⟩ := kC.shape h
  have a1 := hi.1; have a2 := hi.2.1
  have h14 := ho.n
  obtain ⟨W0, hW0⟩ : ∃ W0, Hid (W0 = w.alloc (.cells #[.slice Ac nc cc, .slice Al nl cl, .int .i64 rr, .int .i64 b, .int .i64 p, .int .i64 f] 33)) := ⟨_, rfl⟩
  have X0 : Hid (Ext w W0) := by rw [hW0.out]; exact Ext.alloc w _
  have BA := hide (s.bsAll_m W0 _ d A c B xs (kC.rd_ext h X0.out) hok hd (hi.ext X0.out hB) (Nat.le_trans hB X0.out.size) ho)
  have SB := hide (bases_small hd ho)
  clear h hi hd ho
  obtain ⟨n, hn⟩ : ∃ n, Hid (xs.length = n) := ⟨_, rfl⟩
  rw [hn.out] at a1 h14 BA ⊢
  have PO := hide (fun (A9 : Option Addr) (c9 : Nat) (wo : World) (lo : Nat) (h9 : OwnI 3 wo lo A9 n c9 (basesF d xs)) => s.poSum_any A9 n c9 wo.heap.size _ wo h9.sl (by omega) SB.out)
  generalize (basesF d xs).sum = s2 at *
  go_enter Tryz.func28, Tryz.ntmps28
  go_wp2_with fail
  rw [← hW0.out]
  clear hW0
  refine BA.out.mono ?_
  rintro e w1 ⟨A9, c9, rfl, o9, x9⟩
  have X1 := hide (X0.out.trans x9)
  have O9 := hide o9
  clear o9 x9 BA
  go_wp2_with (go_at_call 57; refine (PO.out A9 c9 w1 _ O9.out).mono ?_; rintro e w3 ⟨rfl, rfl⟩)
  go_ret
  exact ⟨rfl, X1.out⟩

set_option maxRecDepth 100000 in
set_option maxHeartbeats 2000000 in
theorem s.pnReplace_m (w : World) (A : Option Addr) (c B : Nat) (xs : List ItD) (k : Nat) (nm : List UInt8) (hi : LR kdItem w B A c xs) (hB : B ≤ w.heap.size) (hb : itemsB xs = true) (hk : k < xs.length) (hx : nameB nm = true) :
    Calls Tryz.prog 27 #[.slice A xs.length c, .int .i64 k, .string (bs nm)] w fun e w' => ∃ A' c' fp, e = .returned (.slice A' xs.length c') ∧ LO kdItem 60 w' A' c' (replL xs k nm) fp ∧ (∀ i ∈ fp, w.heap.size ≤ i) ∧ Ext w w' := by
  have a1 := hi.1; have a2 := hi.2.1
  have h14 := (itsWt hb).1
  have nl5 := nmLen hx
  have CI := hide (s.itOwn_any w A c B xs hi hB (itemsB_wt1 hb))
  have SI := hide (fun (wq : World) => s.pnItem_m wq nm (by omega))
  have IS := hide (itemsB_set (k := k) hb (itemB_one hx))
  have ML := hide (fun (wq : World) (A9 : Option Addr) (c9 : Nat) (h9 : LR kdItem wq wq.heap.size A9 c9 (xs.set k (oneI nm))) => s.pgLate_m wq A9 c9 wq.heap.size _ h9 (Nat.le_refl _) (itemsB_wt1 IS.out))
  have RD : Hid (lateL (xs.set k (oneI nm)) = replL xs k nm) := rfl
  have SL : Hid ((xs.set k (oneI nm)).length = xs.length) := List.length_set
  have GX : ∃ y, xs[k]? = some y := ⟨_, List.getElem?_eq_getElem hk⟩
  obtain ⟨y, hy⟩ := GX
  have HY := hide hy
  clear hi hy hb hx nl5
  obtain ⟨n, hn⟩ : ∃ n, Hid (xs.length = n) := ⟨_, rfl⟩
  rw [SL.out] at ML
  rw [hn.out] at a1 h14 hk CI ML ⊢
  obtain ⟨R, hR⟩ : ∃ R, Hid (replL xs k nm = R) := ⟨_, rfl⟩
  rw [RD.out] at ML
  rw [hR.out] at ML ⊢
  obtain ⟨nb, hnb⟩ : ∃ nb, Hid (bs nm = nb) := ⟨_, rfl⟩
  rw [hnb.out] at SI ⊢
  go_enter Tryz.func27, Tryz.ntmps27
  go_wp2_with fail
  refine CI.out.mono ?_
  rintro e w1 ⟨A1, c1, fp, rfl, ho1, hf1, x1⟩
  have X1 := hide x1
  have z1 := x1.size
  have HO1 := hide ho1
  have HF1 := hide hf1
  clear x1 ho1 hf1 CI
  go_wp2_with fail
  refine (SI.out w1).mono ?_
  rintro e w2 ⟨A2, A3, f2, rfl, ho2, hf2, x2⟩
  have z2 := x2.size
  obtain ⟨g, rfl, mem, glt, free, ⟨u0, u1, u2, q0, q1, q2⟩, put⟩ := LO.swap3 rfl (HO1.out.ext x2) k y HY.out
  obtain ⟨fp2, ho3, hfp2⟩ := put w2 (.slice A2 1 1) (.slice A3 1 1) (.bool false) (oneI nm) f2 ho2 (fun _ _ => rfl) (fun i hi hm => by have h8 := hf2 i hi; have h9 := HO1.out.lt i hm; omega)
  have gw := HF1.out g mem
  have X3 : Hid (Ext w (((w2.setCell ⟨g, k * 3, none⟩ (.slice A2 1 1)).setCell ⟨g, k * 3 + 1, none⟩ (.slice A3 1 1)).setCell ⟨g, k * 3 + 2, none⟩ (.bool false))) := Below.setCell (Below.setCell (Below.setCell (X1.out.trans x2) (by simp; omega) _) (by simp; omega) _) (by simp; omega) _
  have cap := ho3.cap
  rw [SL.out, hn.out] at cap
  have ca1 := cap.1; have ca2 := cap.2
  have HO3 := hide ho3
  have f0 := free (k * 3); have f1 := free (k * 3 + 1); have f3 := free (k * 3 + 2)
  have ik : (k : Int) < n := by omega
  clear x2 ho2 hf2 put hfp2 ho3 mem SI free cap
  go_wp2_with fail
  generalize ((w2.setCell ⟨g, k * 3, none⟩ (.slice A2 1 1)).setCell ⟨g, k * 3 + 1, none⟩ (.slice A3 1 1)).setCell ⟨g, k * 3 + 2, none⟩ (.bool false) = w3 at *
  clear q0 q1 q2 f0 f1 f3
  have z3 := X3.out.size
  refine (ML.out w3 (some ⟨g, 0, none⟩) c1 HO3.out.rd).mono ?_
  rintro e w4 ⟨A4, c4, fp4, rfl, ho4, hf4, x4⟩
  have HL4 := hide ho4
  have HF4 := hide hf4
  have X4 := hide (X3.out.trans x4)
  clear x4 ho4 hf4 ML
  go_wp2
  go_ret
  exact ⟨_, _, fp4, rfl, HL4.out, fun i hi => by have := HF4.out i hi; omega, X4.out⟩
end Go.Proofs.YteachljlnekkgaaGreat
