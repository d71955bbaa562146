/- OrderForLate by the program. -/
import Derived.Test.YtiohjcadmahkgaaGreatZT
namespace Go.Proofs.YtiohjcadmahkgaaGreat
open Go.RowKit Go.Sort
set_option linter.unusedVariables false

theorem sortS_mem {α : Type} [Inhabited α] (lt : α → α → Bool) {xs : List α} {x : α} (h : x ∈ sortS lt xs) : x ∈ xs := by
  have hi : ∀ (out : List α) (y : α), x ∈ insS lt out y → x ∈ out ∨ x = y := by
    intro out y h
    unfold insS insAt at h
    rcases List.mem_append.1 h with h | h
    · exact .inl (List.mem_of_mem_take h)
    · rcases List.mem_cons.1 h with h | h
      · exact .inr h
      · exact .inl (List.mem_of_mem_drop h)
  have hf : ∀ (ys out : List α), x ∈ ys.foldl (insS lt) out → x ∈ out ∨ x ∈ ys := by
    intro ys
    induction ys with
    | nil => intro out h; exact .inl h
    | cons y t ih =>
      intro out h
      rcases ih _ h with h | h
      · rcases hi _ _ h with h | rfl
        · exact .inl h
        · exact .inr (by simp)
      · exact .inr (by simp [h])
  rcases hf xs [] h with h | h
  · simp at h
  · exact h
theorem sortS_len {α : Type} [Inhabited α] (lt : α → α → Bool) (xs : List α) : (sortS lt xs).length = xs.length := by
  have : ∀ (ys out : List α), (ys.foldl (insS lt) out).length = out.length + ys.length := by
    intro ys
    induction ys with
    | nil => intro out; simp
    | cons y t ih => intro out; rw [List.foldl_cons, ih, insS_len]; simp; omega
  unfold sortS
  rw [this]
  simp
theorem itemsB_sub {xs ys : List ItD} (h : itemsB xs = true) (hl : ys.length = xs.length) (hm : ∀ y ∈ ys, itemB y = true) : itemsB ys = true := by
  simp only [itemsB, Bool.and_eq_true, List.all_eq_true, decide_eq_true_eq] at h ⊢
  exact ⟨hm, by rw [hl]; exact h.2⟩
theorem itemsB_early {xs : List ItD} (h : itemsB xs = true) : itemsB (xs.map earlyD) = true := by
  refine itemsB_sub h (by simp) (fun y hy => ?_)
  obtain ⟨x, hx, rfl⟩ := List.mem_map.1 hy
  simp only [itemsB, Bool.and_eq_true, List.all_eq_true] at h
  have := h.1 x hx
  exact this
theorem itemsB_sort {d : CoD} {xs : List ItD} (h : itemsB xs = true) : itemsB (sortS (ltF d) (xs.map earlyD)) = true := by
  have h1 := itemsB_early h
  refine itemsB_sub h1 (sortS_len _ _) (fun y hy => ?_)
  simp only [itemsB, Bool.and_eq_true, List.all_eq_true] at h1
  exact h1.1 y (sortS_mem _ hy)
theorem itemsB_order {d : CoD} {xs : List ItD} (h : itemsB xs = true) : itemsB (orderL d xs) = true := itemsB_late (itemsB_sort h)
theorem orderL_len (d : CoD) (xs : List ItD) : (orderL d xs).length = xs.length := by unfold orderL; rw [lateL_len, sortS_len, List.length_map]
theorem itOk_early {d : CoD} {x : ItD} (h : ItOk d x) : ItOk d (earlyD x) := ⟨h.n1, h.n3, h.ml, h.kn⟩
theorem kIt.ofOwn {w : World} {A : Option Addr} {c lo n : Nat} {xs : List ItD} {fp : List Nat} (h : LO kdItem 53 w A c xs fp) (hf : ∀ i ∈ fp, lo ≤ i) (hn : n = xs.length) : kIt.fr w lo w.heap.size (.slice A n c) xs := by
  subst hn
  exact ⟨[.slice A xs.length c], fp, rfl, ⟨A, c, rfl, h⟩, fun i hi => ⟨hf i hi, h.lt i hi⟩⟩

set_option maxRecDepth 100000 in
set_option maxHeartbeats 2000000 in
theorem i.stable_m (w0 w : World) (gb : Nat) (v : Value) (d : CoD) (A : Option Addr) (c : Nat) (xs : List ItD) (fp : List Nat) {Ac Al : Option Addr} {nc cc nl cl : Nat} {r b p f : Int} {T : TypeId} (hv : v = .agg #[.slice Ac nc cc, .slice Al nl cl, .int .i64 r, .int .i64 b, .int .i64 p, .int .i64 f])
    (hb : Blk w0 gb #[.slice Ac nc cc, .slice Al nl cl, .int .i64 r, .int .i64 b, .int .i64 p, .int .i64 f] T) (h : kC.rd w0 v d) (hok : kC.ok d) (hd : CodeOk d) (hX : Ext w0 w) (ho : LO kdItem 53 w A c xs fp) (hf : ∀ i ∈ fp, w0.heap.size ≤ i) (h14 : xs.length ≤ 14) (hit : ∀ x ∈ xs, ItOk d x) :
    Calls Tryz.prog 26 #[.slice A xs.length c, .func (.func 27) #[] #[.pointer (some ⟨gb, 0, none⟩)]] w fun e w' => e = .returned (.tuple #[]) ∧ ∃ fp2, LO kdItem 53 w' A c (sortS (ltF d) xs) fp2 ∧ (∀ i ∈ fp2, i ∈ fp) ∧ Ext w0 w' := by
  have IS := hide (i.insSort_m w0 w gb v d A c xs fp hv hb h hok hd hX ho hf h14 hit)
  have cap := ho.cap
  have ca1 := cap.1; have ca2 := cap.2
  clear hv hb h hok hd hX ho hf hit cap
  have ST : Hid (Calls Tryz.prog 50 #[.slice A xs.length c, .int .i64 xs.length, .func (.func 27) #[] #[.pointer (some ⟨gb, 0, none⟩)]] w fun e w' => e = .returned (.tuple #[]) ∧ ∃ fp2, LO kdItem 53 w' A c (sortS (ltF d) xs) fp2 ∧ (∀ i ∈ fp2, i ∈ fp) ∧ Ext w0 w') := by
    show Calls _ _ _ _ _
    generalize xs.length = n at *
    have n20 : ¬ (20 : Int) ≤ (n : Int) := by omega
    have n21 : ¬ (20 : Int) < (n : Int) := by omega
    go_enter Tryz.func50, Tryz.ntmps50
    go_wp2
    refine wp_loop_rounds 1 ?_
    rw [rounds_succ]
    go_wp2_with (go_at_call 66; refine IS.out.mono ?_; rintro e w1 ⟨rfl, fp2, l2, s2, x2⟩; have L2 := hide l2; have S2 := hide s2; have X2 := hide x2; clear l2 s2 x2)
    refine wp_loop_rounds 1 ?_
    rw [rounds_succ]
    go_wp2
    go_end0
    exact ⟨rfl, fp2, L2.out, S2.out, X2.out⟩
  generalize xs.length = n at *
  clear IS
  go_enter Tryz.func26, Tryz.ntmps26
  go_wp2_with fail
  refine ST.out.mono ?_
  rintro e w1 ⟨rfl, fp2, l2, s2, x2⟩
  have L2 := hide l2; have S2 := hide s2; have X2 := hide x2
  clear l2 s2 x2 ST
  go_wp2
  go_end0
  exact ⟨rfl, fp2, L2.out, S2.out, X2.out⟩

set_option maxRecDepth 100000 in
set_option maxHeartbeats 4000000 in
theorem i.OrderForLate_law (w : World) (v v1 : Value) (d : CoD) (xs : List ItD) (h : kC.rd w v d) (hok : kC.ok d) (hx : kIt.rd w v1 xs) (hox : kIt.ok xs) :
    Calls Tryz.prog 9 #[v, v1] w fun e w' => ∃ v0, e = .returned (.tuple #[v0, .bool (orderF d xs).2]) ∧ kIt.fr w' w.heap.size w'.heap.size v0 (orderF d xs).1 ∧ kIt.ok (orderF d xs).1 ∧ Ext w w' := by
  obtain ⟨Ac, nc, cc, Al, nl, cl, rr, b, p, f, rfl⟩ := kC.shape h
  obtain ⟨A, c, rfl, hl⟩ := kIt.lr hx
  have hw : wtL kdItem xs ≤ 1048576 := hox
  have hlen := Nat.le_trans (wtL_len kdItem xs) hw
  have a1 := hl.1; have a2 := hl.2.1
  obtain ⟨W0, hW0⟩ : ∃ W0, Hid (W0 = w.alloc (.cells #[.slice Ac nc cc, .slice Al nl cl, .int .i64 rr, .int .i64 b, .int .i64 p, .int .i64 f] 34)) := ⟨_, rfl⟩
  have X0 : Hid (Ext w W0) := by rw [hW0.out]; exact Ext.alloc w _
  have B0 : Hid (Blk W0 w.heap.size #[.slice Ac nc cc, .slice Al nl cl, .int .i64 rr, .int .i64 b, .int .i64 p, .int .i64 f] 34) := by rw [hW0.out]; exact Blk.new rfl _ _
  have zW := X0.out.size
  have PG := hide (i.isProgramme_m W0 _ d A c w.heap.size xs (kC.rd_ext h X0.out) hok (hl.ext X0.out (Nat.le_refl _)) X0.out.size hw)
  have CI := hide (fun (wq : World) (xq : Ext w wq) => i.copyItems_any wq A c w.heap.size xs (hl.ext xq (Nat.le_refl _)) xq.size hw)
  have OF : Hid (orderF d xs = if progB d xs then (orderL d xs, true) else ([], false)) := rfl
  have ST := hide (fun (hp : progB d xs = true) (wq : World) (xq : Ext W0 wq) (A9 : Option Addr) (c9 : Nat) (fp : List Nat) (ho : LO kdItem 53 wq A9 c9 (xs.map earlyD) fp) (hf : ∀ i ∈ fp, W0.heap.size ≤ i) => i.stable_m W0 wq w.heap.size _ d A9 c9 (xs.map earlyD) fp rfl B0.out (kC.rd_ext h X0.out) hok (codeB_ok (progB_code hp).1) xq ho hf (by rw [List.length_map]; exact (progB_ls hp).n) (fun x hx => by
    obtain ⟨y, hy, rfl⟩ := List.mem_map.1 hx
    obtain ⟨k, hk⟩ := List.getElem?_of_mem hy
    exact itOk_early ((progB_ls hp).it k y hk)))
  have ML := hide (fun (hp : progB d xs = true) (wq : World) (A9 : Option Addr) (c9 : Nat) (h9 : LR kdItem wq wq.heap.size A9 c9 (sortS (ltF d) (xs.map earlyD))) => i.markLate_m wq A9 c9 wq.heap.size _ h9 (Nat.le_refl _) (itemsB_wt1 (itemsB_sort (progB_code hp).2)))
  have OB := hide (fun (hp : progB d xs = true) => itemsB_wt1 (itemsB_order (d := d) (progB_code hp).2))
  have SL : Hid ((sortS (ltF d) (xs.map earlyD)).length = xs.length) := by show _ = _; rw [sortS_len, List.length_map]
  have EL : Hid ((xs.map earlyD).length = xs.length) := List.length_map _
  have OL := hide (orderL_len d xs)
  have OE : Hid (lateL (sortS (ltF d) (xs.map earlyD)) = orderL d xs) := rfl
  rw [SL.out, OE.out] at ML
  rw [EL.out] at ST
  clear h hx hl hox hw
  obtain ⟨F, hF⟩ : ∃ F, Hid (orderF d xs = F) := ⟨_, rfl⟩
  rw [hF.out] at OF ⊢
  obtain ⟨n, hn⟩ : ∃ n, Hid (xs.length = n) := ⟨_, rfl⟩
  rw [hn.out] at a1 hlen PG CI ST ML OL ⊢
  go_enter Tryz.func9, Tryz.ntmps9
  go_wp2_with fail
  rw [← hW0.out]
  clear hW0
  refine PG.out.mono ?_
  rintro e w1 ⟨rfl, x1⟩
  have Y1 := hide x1
  clear x1 PG
  cases hp : progB d xs
  · have HF : Hid (F = ([], false)) := by show _ = _; rw [OF.out, hp]; rfl
    clear hp OF ST ML OB
    go_wp2
    go_ret2
    rw [HF.out]
    exact ⟨_, rfl, kIt.fr_nil _ _ _, Nat.zero_le _, X0.out.trans Y1.out⟩
  have HF : Hid (F = (orderL d xs, true)) := by show _ = _; rw [OF.out, hp]; rfl
  have SQ := hide (ST.out hp)
  have MQ := hide (ML.out hp)
  have OQ := hide (OB.out hp)
  clear hp OF ST ML OB
  go_wp2_with fail
  refine (CI.out w1 (X0.out.trans Y1.out)).mono ?_
  rintro e w2 ⟨A1, c1, fp, rfl, ho, hf, x2⟩
  have HO : Hid (LO kdItem 53 w2 A1 c1 (mapTo earlyD xs 0) fp) := by rw [mapTo_zero]; exact ho
  have z1 := Y1.out.size
  have HFP : Hid (∀ i ∈ fp, W0.heap.size ≤ i) := fun i hi => by have := hf i hi; omega
  have HX := hide (Y1.out.trans x2)
  have cap := ho.cap
  rw [hn.out] at cap
  have ca1 := cap.1; have ca2 := cap.2
  clear ho hf x2 CI cap
  go_wp2
  go_loopw [16] (fun i wr => ∃ (k : Nat), k ≤ n ∧ i = .int .i64 k ∧ LO kdItem 53 wr A1 c1 (mapTo earlyD xs k) fp ∧ Ext W0 wr) (fun i _ => n - (intOf i).toNat)
  case atStart => exact ⟨0, Nat.zero_le _, rfl, HO.out, HX.out⟩
  case round =>
    obtain ⟨k, hk, rfl, ho, hx⟩ := hrel
    clear HO HX
    by_cases hlt : k < n
    · obtain ⟨x, hxk⟩ : ∃ x, Hid (xs[k]? = some x) := get_exP xs k (by rw [hn.out]; exact hlt)
      obtain ⟨g, cs, f0, rfl, own, sub, mem, glt, cell, free, put⟩ := LO.put ho k x (mapTo_at earlyD xs k x hxk.out)
      have gw := HFP.out g mem
      have OLx := kdItem.own_late own false
      have q2 : wr.cell? ⟨g, k * 3 + 2, none⟩ = some (.bool x.2.2) := cell 2 _ OLx.1
      have qf := free (k * 3 + 2)
      have P2 := put wr 2 (.bool false) _ (by decide) OLx.2 (TchF.refl _ _)
      have e2 : (x.1, x.2.1, false) = earlyD x := rfl
      rw [e2, mapTo_set earlyD xs k x hxk.out] at P2
      have P2' : Hid (LO kdItem 53 (wr.setCell ⟨g, k * 3 + 2, none⟩ (.bool false)) (some ⟨g, 0, none⟩) c1 (mapTo earlyD xs (k + 1)) fp) := P2
      have YX := hide (hx.cellAt gw (k * 3 + 2) (.bool false))
      have i1 : (k : Int) < n := by omega
      clear ho hx own sub cell free put OLx P2 e2
      go_wp2
      generalize wr.setCell ⟨g, k * 3 + 2, none⟩ (.bool false) = w6 at *
      go_roundw
      case rel => exact ⟨k + 1, by omega, by go_num, P2'.out, YX.out⟩
      case measure => simp [intOf]; omega
    · have ek : n = k := by omega
      subst ek
      rw [mapTo_all earlyD xs n (by rw [hn.out]; omega)] at ho
      have HO := hide ho
      have HX := hide hx
      clear ho hx
      go_wp2_with fail
      refine (SQ.out wr HX.out A1 c1 fp HO.out HFP.out).mono ?_
      rintro e w5 ⟨rfl, fp2, l2, s2, x5⟩
      have L2 := hide l2.rd
      have X5 := hide x5
      have z5 := x5.size
      clear l2 s2 x5 SQ
      go_wp2_with fail
      refine (MQ.out w5 A1 c1 L2.out).mono ?_
      rintro e w6 ⟨A6, c6, fp6, rfl, l6, s6, x6⟩
      have L6 := hide l6
      have S6 := hide s6
      have X6 := hide x6
      clear l6 s6 x6 MQ
      go_wp2
      go_ret2
      rw [HF.out]
      exact ⟨_, rfl, kIt.ofOwn L6.out (fun i hi => by have := S6.out i hi; omega) OL.out.symm, OQ.out, X0.out.trans (X5.out.trans X6.out)⟩
end Go.Proofs.YtiohjcadmahkgaaGreat
