/- Families of items; FamilyBases. -/
import Derived.Test.YtegoapdbpfhkiaaGreatRK
namespace Go.Proofs.YtegoapdbpfhkiaaGreat
open Go.RowKit Go.Sort
set_option linter.unusedVariables false

theorem made_zeroR (n : Nat) : (madeCells #[Value.int .i64 0] n).toList = (List.replicate n (0 : Int)).map (Value.int .i64) := by
  have h := part_made (List.replicate n 0) n (by simp)
  rw [h]
  congr 1
  simp [part]
theorem kI_of {w : World} {lo n c : Nat} {A : Option Addr} {zs : List Int} (h : OwnI 3 w lo A n c zs) : kI.fr w lo w.heap.size (.slice A n c) zs := by
  have hl := h.len
  subst hl
  exact ⟨A, c, rfl, h.fr⟩
theorem kI_nil (w : World) (lo hi : Nat) (h : hi ≤ w.heap.size) : kI.fr w lo hi (.slice none 0 0) [] := ⟨none, 0, rfl, OwnI.nil, h, fun p hp => by cases hp⟩
def familyF (d : CoD) (x : ItD) : Int := (d.1.getD (findF d.1 (x.1.getD 0 [])).toNat noEl).2.1
theorem familyF_bd {d : CoD} (hd : CodeOk d) (x : ItD) : 0 ≤ familyF d x ∧ familyF d x ≤ 4 := by
  unfold familyF
  cases hx : d.1[(findF d.1 (x.1.getD 0 [])).toNat]? with
  | none => rw [List.getD_eq_getElem?_getD, hx]; exact ⟨by decide, by decide⟩
  | some y => rw [getD_some hx]; have := elB_ok (hd.els _ _ hx); omega
def famN (d : CoD) (xs : List ItD) : Nat → List Int
  | 0 => List.replicate 5 0
  | k + 1 => (famN d xs k).set (familyF d (xs.getD k noItem)).toNat ((famN d xs k).getD (familyF d (xs.getD k noItem)).toNat 0 + baseF d xs k)
theorem famN_len (d : CoD) (xs : List ItD) (k : Nat) : (famN d xs k).length = 5 := by
  induction k with
  | zero => rfl
  | succ k ih => unfold famN; rw [List.length_set]; exact ih
theorem famN_bd {d : CoD} (hd : CodeOk d) {xs : List ItD} (ho : LsOk d xs) (k i : Nat) : 0 ≤ (famN d xs k).getD i 0 ∧ (famN d xs k).getD i 0 ≤ 10000 * k := by
  induction k generalizing i with
  | zero =>
    unfold famN
    have : (List.replicate 5 (0 : Int)).getD i 0 = 0 := by
      rw [List.getD_eq_getElem?_getD, List.getElem?_replicate]; split <;> rfl
    omega
  | succ k ih =>
    have hb := baseF_bd hd ho k
    unfold famN
    rw [List.getD_eq_getElem?_getD, List.getElem?_set]
    split
    · split
      · have := ih (familyF d (xs.getD k noItem)).toNat
        simp only [Option.getD_some]
        omega
      · simp only [Option.getD_none]; omega
    · have := ih i
      rw [List.getD_eq_getElem?_getD] at this
      omega
def famLaw (d : CoD) (xs : List ItD) : List Int × Bool := if codeB d && itemsB xs && knownB d.1 xs then (famN d xs xs.length, true) else ([], false)
theorem basesF_at {d : CoD} {xs : List ItD} {k : Nat} (h : k < xs.length) : (basesF d xs).getD k 0 = baseF d xs k := by
  unfold basesF basesN
  rw [List.getD_eq_getElem?_getD, List.getElem?_map, List.getElem?_range h]
  rfl

set_option maxRecDepth 100000 in
set_option maxHeartbeats 2000000 in
theorem i.familyOf_m (w : World) (v : Value) (d : CoD) (vs : List Value) (x : ItD) (h : kC.rd w v d) (hok : kC.ok d) (hd : CodeOk d) (hx : kdItem.rd w w.heap.size vs x) (hi : ItOk d x) :
    Calls Tryz.prog 148 #[v, kdItem.val vs] w fun e w' => e = .returned (.int .i64 (familyF d x)) ∧ Ext w w' := by
  obtain ⟨Ac, cc, Al, cl, rfl, hle, _⟩ := kC.lr h
  have HR := hide h
  have HLE := hide hle
  obtain ⟨nc, NC⟩ : ∃ z, Hid (d.1.length = z) := ⟨_, rfl⟩
  obtain ⟨nl, NL⟩ : ∃ z, Hid (d.2.1.length = z) := ⟨_, rfl⟩
  obtain ⟨r, RN⟩ : ∃ z, Hid (d.2.2.1 = z) := ⟨_, rfl⟩
  obtain ⟨b, BN⟩ : ∃ z, Hid (d.2.2.2.1 = z) := ⟨_, rfl⟩
  obtain ⟨p, PN⟩ : ∃ z, Hid (d.2.2.2.2.1 = z) := ⟨_, rfl⟩
  obtain ⟨f, FN⟩ : ∃ z, Hid (d.2.2.2.2.2 = z) := ⟨_, rfl⟩
  rw [NC.out, NL.out, RN.out, BN.out, PN.out, FN.out] at HR ⊢
  clear hle
  obtain ⟨A1, c1, A2, c2, rfl, h1, h2⟩ := kdItem.open_ hx
  rw [kdItem.val3]
  have H1 := hide h1
  have H2 := hide h2
  have a1 := h1.1; have a2 := h1.2.1; have a3 := h2.1; have a4 := h2.2.1
  have i1 := hi.n1; have i3 := hi.n3
  have ML := hide hi.ml
  have HI := hide hi
  have HD := hide hd
  clear h hx h1 h2 hi hd
  rw [ML.out] at a3 ⊢
  obtain ⟨m, hm⟩ : ∃ m, Hid (x.1.length = m) := ⟨_, rfl⟩
  rw [hm.out] at a1 a3 i1 i3 ⊢
  obtain ⟨q, hq⟩ : ∃ q, Hid (x.2.2 = q) := ⟨_, rfl⟩
  rw [hq.out]
  obtain ⟨W0, hW0⟩ : ∃ W0, Hid (W0 = (w.alloc (.cells #[.slice Ac nc cc, .slice Al nl cl, .int .i64 r, .int .i64 b, .int .i64 p, .int .i64 f] 26)).alloc (.cells #[.slice A1 m c1, .slice A2 m c2, .bool q] 51)) := ⟨_, rfl⟩
  have X0 : Hid (Ext w W0) := by rw [hW0.out]; exact (Ext.alloc w _).trans (Ext.alloc _ _)
  have B0 : Hid (Blk W0 w.heap.size #[.slice Ac nc cc, .slice Al nl cl, .int .i64 r, .int .i64 b, .int .i64 p, .int .i64 f] 26) := by rw [hW0.out]; exact (Blk.new rfl _ _).alloc _
  have B1 : Hid (Blk W0 (w.heap.size + 1) #[.slice A1 m c1, .slice A2 m c2, .bool q] 51) := by rw [hW0.out]; exact Blk.new (by simp) _ _
  have zW := X0.out.size
  obtain ⟨nm, hnm⟩ : ∃ nm, Hid (x.1[0]? = some nm) := get_ex x.1 0 (by rw [hm.out]; omega)
  obtain ⟨bn, on, rfl, hbn, u0, -⟩ := H1.out.str 0 nm hnm.out
  have FI := HI.out.kn 0 nm hnm.out
  obtain ⟨e9, y, hF, hyk, -⟩ := findF_some FI
  have FA : Hid (familyF d x = y.2.1) := by show _ = _; unfold familyF; rw [getD_some hnm.out, hF, Int.toNat_natCast, getD_some hyk]
  have hle := HLE.out
  have hnc := NC.out.symm
  have e9n : e9 < nc := by rw [hnc]; exact (List.getElem?_eq_some_iff.1 hyk).1
  have n24 : nc ≤ 24 := by rw [hnc]; exact HD.out.n2
  have ccn : nc ≤ cc := by rw [hnc]; exact hle.1
  have ccm := hle.2.1
  obtain ⟨be, oe, rfl, hbe, -, v1, -⟩ := hle.element e9 y hyk
  have FE := hide (fun dd os => ext_regrown (i.findElement_m (grow (redrawn W0 dd) os) _ d nm (kC.rd_ext HR.out (X0.out.trans (ext_re W0 dd os))) hok))
  rw [hF] at FE
  simp only [Nat.add_zero] at u0
  have V1 : W0.cell? ⟨be, oe + e9 * 4 + 1, none⟩ = some (.int .i64 y.2.1) := (X0.out.cell hbe).trans v1
  have U0 : W0.cell? ⟨bn, on, none⟩ = some (.string (bs nm)) := (X0.out.cell hbn).trans u0
  have c0_ := fun dd os => (B0.out.ext (ext_re W0 dd os)).cell
  have c1_ := fun dd os => (B1.out.ext (ext_re W0 dd os)).cell
  have v1_ := fun dd os => cell_regrown V1 dd os
  have u0_ := fun dd os => cell_regrown U0 dd os
  obtain ⟨R, hR⟩ : ∃ R, Hid (familyF d x = R) := ⟨_, rfl⟩
  rw [hR.out] at FA ⊢
  have p1 : 0 < m := by omega
  clear v1 u0 U0 hF hyk hle hnc FI
  generalize y.2.1 = Z at *
  generalize bs nm = nb at *
  go_enter Tryz.func148, Tryz.ntmps148
  go_wp2
  rw [← hW0.out]
  clear hW0
  refine wp_region_quiet_below (by kernel_rfl) (by kernel_rfl) ?_
  repeat (go_big_quiet_step ((go_at_call 111; exact FE.out _ _)))
  refine wpQuiet_nil ?_
  intro _ hw'
  obtain ⟨⟨dq, osq⟩, hw''⟩ := hw'
  subst hw''
  have Y2 := hide (ext_re W0 dq osq)
  have B2 := hide (B0.out.ext Y2.out)
  have V2 := hide ((Y2.out.cell (World.block_lt_of_cell? W0 _ V1)).trans V1)
  clear c0_ c1_ v1_ u0_ V1
  generalize grow (redrawn W0 dq) osq = w2 at *
  have cB := B2.out.cell
  have cV := V2.out
  go_wp2
  go_ret
  exact ⟨ret_int FA.out.symm, X0.out.trans Y2.out⟩

end Go.Proofs.YtegoapdbpfhkiaaGreat
