/- Repeats, bases of items, bases of lists. -/
import Derived.Test.YtaoeomgehpdedaaGreatGR
namespace Go.Proofs.YtaoeomgehpdedaaGreat
open Go.RowKit Go.Sort
set_option linter.unusedVariables false

theorem get_ex {α : Type} (xs : List α) (k : Nat) (h : k < xs.length) : ∃ x, Hid (xs[k]? = some x) := ⟨xs[k], List.getElem?_eq_getElem h⟩
def repP (y x : ItD) : Bool := (x.1.getD 0 [] == y.1.getD 0 []) && !(x.2.1.getD 0 0 == 3)
def repN (xs : List ItD) (y : ItD) (j : Nat) : Nat := ((xs.take j).filter (repP y)).length
def repF (xs : List ItD) (k : Nat) : Nat := repN xs (xs.getD k noItem) k
theorem repN_succ {xs : List ItD} {j : Nat} {x : ItD} (hx : xs[j]? = some x) (y : ItD) : repN xs y (j + 1) = repN xs y j + (if repP y x then 1 else 0) := by
  obtain ⟨hj, rfl⟩ := List.getElem?_eq_some_iff.1 hx
  unfold repN
  rw [List.take_succ_eq_append_getElem hj, List.filter_append, List.length_append]
  congr 1
  by_cases h : repP y xs[j] <;> simp [h]
theorem repN_le (xs : List ItD) (y : ItD) (j : Nat) : repN xs y j ≤ j := by
  unfold repN
  have h1 := List.length_filter_le (repP y) (xs.take j)
  have h2 := List.length_take_le j xs
  omega
def baseF (d : CoD) (xs : List ItD) (k : Nat) : Int := if (repF xs k : Int) < d.2.2.1 then fullF d (xs.getD k noItem) else if (repF xs k : Int) = d.2.2.1 then fullF d (xs.getD k noItem) * 7 / 10 else 0
def basesN (d : CoD) (xs : List ItD) (k : Nat) : List Int := (List.range k).map (baseF d xs)
def basesF (d : CoD) (xs : List ItD) : List Int := basesN d xs xs.length
theorem basesN_succ (d : CoD) (xs : List ItD) (k : Nat) : basesN d xs (k + 1) = basesN d xs k ++ [baseF d xs k] := by simp [basesN, List.range_succ]
theorem basesN_len (d : CoD) (xs : List ItD) (k : Nat) : (basesN d xs k).length = k := by simp [basesN]
/-- A list whose items are valid and known. -/
structure LsOk (d : CoD) (xs : List ItD) : Prop where
  n : xs.length ≤ 14
  it : ∀ (k : Nat) (x : ItD), xs[k]? = some x → ItOk d x
theorem lsOk {d : CoD} {xs : List ItD} (h : itemsB xs = true) (h1 : knownB d.1 xs = true) : LsOk d xs := by
  simp only [itemsB, Bool.and_eq_true, List.all_eq_true, decide_eq_true_eq] at h
  simp only [knownB, List.all_eq_true] at h1
  exact ⟨by omega, fun k x hx => itOk (h.1 x (List.mem_of_getElem? hx)) (h1 x (List.mem_of_getElem? hx))⟩
theorem baseF_bd {d : CoD} (hd : CodeOk d) {xs : List ItD} (ho : LsOk d xs) (k : Nat) : 0 ≤ baseF d xs k ∧ baseF d xs k ≤ 10000 := by
  have h : 0 ≤ fullF d (xs.getD k noItem) ∧ fullF d (xs.getD k noItem) ≤ 10000 := by
    refine fullF_bd hd _ ?_
    cases hx : xs[k]? with
    | none => rw [List.getD_eq_getElem?_getD, hx]; decide
    | some x => rw [getD_some hx]; exact (ho.it k x hx).n3
  unfold baseF
  split
  · exact h
  · split <;> omega
theorem basesN_bd {d : CoD} (hd : CodeOk d) {xs : List ItD} (ho : LsOk d xs) (k : Nat) : ∀ z ∈ basesN d xs k, 0 ≤ z ∧ z ≤ 10000 := by
  intro z hz
  obtain ⟨i, _, rfl⟩ := List.mem_map.1 hz
  exact baseF_bd hd ho i

set_option maxRecDepth 100000 in
set_option maxHeartbeats 2000000 in
theorem i.repeatsOf_m (w : World) (A : Option Addr) (c B : Nat) (xs : List ItD) (k : Nat) (d : CoD) (h : LR kdItem w B A c xs) (hB : B ≤ w.heap.size) (hk : k < xs.length) (ho : LsOk d xs) :
    Calls Tryz.prog 94 #[.slice A xs.length c, .int .i64 k] w fun e w' => e = .returned (.int .i64 (repF xs k : Nat)) ∧ Ext w w' := by
  have H := hide h
  have a1 := h.1; have a2 := h.2.1
  have h14 := ho.n
  have HO := hide ho
  obtain ⟨y, hy⟩ : ∃ y, Hid (xs[k]? = some y) := ⟨_, List.getElem?_eq_getElem hk⟩
  have RF : Hid (repF xs k = repN xs y k) := by show _ = _; unfold repF; rw [getD_some hy.out]
  rw [RF.out]
  clear h ho RF
  obtain ⟨n, hn⟩ : ∃ n, Hid (xs.length = n) := ⟨_, rfl⟩
  rw [hn.out] at a1 h14 hk ⊢
  have R0 : Hid (repN xs y 0 = 0) := by show _ = _; simp [repN]
  go_enter Tryz.func94, Tryz.ntmps94
  go_wp2
  go_loopw [5, 12] (fun o i wr => ∃ (j : Nat), j ≤ k ∧ i = .int .i64 j ∧ o = .int .i64 (repN xs y j : Nat) ∧ Ext w wr) (fun _ i _ => k - (intOf i).toNat)
  case atStart => exact ⟨0, Nat.zero_le _, rfl, by rw [R0.out]; rfl, Ext.refl _⟩
  case round =>
    obtain ⟨j, hj, rfl, rfl, hx⟩ := hrel
    have HX := hide hx
    clear hx
    by_cases hlt : j < k
    · obtain ⟨x, hxj⟩ : ∃ x, Hid (xs[j]? = some x) := ⟨_, List.getElem?_eq_getElem (by rw [hn.out]; omega)⟩
      have sz := HX.out.size
      obtain ⟨b, off, A1, c1, A2, c2, rfl, hb, q0, q1, q2, r1, r2⟩ := (H.out.ext HX.out hB).item j x hxj.out
      obtain ⟨b', off', A3, c3, A4, c4, he, hb', q3, q4, q5, r3, r4⟩ := (H.out.ext HX.out hB).item k y hy.out
      simp only [Option.some.injEq, Addr.mk.injEq, and_true] at he
      obtain ⟨rfl, rfl⟩ := he
      have ix := HO.out.it j x hxj.out
      have iy := HO.out.it k y hy.out
      have x1 := ix.n1; have x3 := ix.n3; have xm := ix.ml; have y1 := iy.n1; have y3 := iy.n3
      obtain ⟨nx, hnx⟩ : ∃ nx, Hid (x.1[0]? = some nx) := get_ex x.1 0 (by omega)
      obtain ⟨ny, hny⟩ : ∃ ny, Hid (y.1[0]? = some ny) := get_ex y.1 0 (by omega)
      obtain ⟨mx, hmx⟩ : ∃ mx, Hid (x.2.1[0]? = some mx) := get_ex x.2.1 0 (by omega)
      obtain ⟨g1, o1, rfl, hg1, s1, -⟩ := r1.str 0 nx hnx.out
      obtain ⟨g2, o2, rfl, hg2, s2, -⟩ := r3.str 0 ny hny.out
      obtain ⟨g3, o3, rfl, hg3, s3⟩ := r2.intAt 0 mx hmx.out
      have l1 := r1.1; have l2 := r2.1; have l3 := r3.1; have l4 := r1.2.1; have l5 := r2.2.1; have l6 := r3.2.1
      simp only [Nat.add_zero] at s1 s2 s3
      obtain ⟨W1, hW1⟩ : ∃ W1, Hid (W1 = wr.alloc (.cells #[.slice (some ⟨g1, o1, none⟩) x.1.length c1, .slice (some ⟨g3, o3, none⟩) x.2.1.length c2, .bool x.2.2] 47)) := ⟨_, rfl⟩
      have X1 : Hid (Ext wr W1) := by rw [hW1.out]; exact Ext.alloc _ _
      have B1 : Hid (Blk W1 wr.heap.size #[.slice (some ⟨g1, o1, none⟩) x.1.length c1, .slice (some ⟨g3, o3, none⟩) x.2.1.length c2, .bool x.2.2] 47) := by rw [hW1.out]; exact Blk.new rfl _ _
      have s1_ : W1.cell? ⟨g1, o1, none⟩ = some (.string (bs nx)) := (X1.out.cell (by show g1 < _; omega)).trans s1
      have s2_ : W1.cell? ⟨g2, o2, none⟩ = some (.string (bs ny)) := (X1.out.cell (by show g2 < _; omega)).trans s2
      have s3_ : W1.cell? ⟨g3, o3, none⟩ = some (.int .i64 mx) := (X1.out.cell (by show g3 < _; omega)).trans s3
      have q3_ : W1.cell? ⟨b, off + k * 3, none⟩ = some (.slice (some ⟨g2, o2, none⟩) y.1.length c3) := (X1.out.cell (by show b < _; omega)).trans q3
      have SU := hide (repN_succ hxj.out y)
      have PP : Hid (repP y x = ((nx == ny) && !(mx == 3))) := by show _ = _; unfold repP; rw [getD_some hnx.out, getD_some hny.out, getD_some hmx.out]
      have RL := repN_le xs y j
      have ML := hide xm
      clear r1 r2 r3 r4 s1 s2 s3 q3 q4 q5 ix iy xm
      obtain ⟨n1, hn1⟩ : ∃ n1, Hid (x.1.length = n1) := ⟨_, rfl⟩
      rw [hn1.out] at ML
      rw [ML.out] at q1 l2 hW1 B1
      rw [hn1.out] at q0 l1 hW1 B1 x1 x3
      have p1 : 0 < n1 := x1
      generalize y.1.length = n2 at *
      generalize x.2.2 = m3 at *
      generalize repN xs y j = Q at *
      have E1 : Hid (((bs nx).toList == (bs ny).toList) = (nx == ny)) := by show _ = _; rw [bs_toList, bs_toList]
      generalize bs nx = bx at *
      generalize bs ny = bY at *
      go_wp2
      rw [← hW1.out]
      clear hW1 q0 q1 q2
      have c1_ := B1.out.cell
      have i1 : (k : Int) < n := by omega
      cases hE : (nx == ny)
      · have e1 := E1.out
        rw [hE] at e1
        have HP : Hid (repP y x = false) := by show _ = _; rw [PP.out, hE]; rfl
        clear hE
        go_quiet (fail)
        clear e1 c1_ s1_ s2_ s3_ q3_
        go_wp2
        go_roundw
        case rel => exact ⟨j + 1, by omega, by go_num, by rw [SU.out, HP.out]; rfl, (HX.out.trans X1.out).trans (Ext.drewN _ _)⟩
        case measure => simp [intOf]; omega
      · have e1 := E1.out
        rw [hE] at e1
        by_cases hm3 : mx = 3
        · have HP : Hid (repP y x = false) := by show _ = _; rw [PP.out, hE, hm3]; rfl
          have e2 : (mx != 3) = false := by simp [hm3]
          clear hE hm3
          go_quiet (fail)
          clear e1 e2 c1_ s1_ s2_ s3_ q3_
          go_wp2
          go_roundw
          case rel => exact ⟨j + 1, by omega, by go_num, by rw [SU.out, HP.out]; rfl, (HX.out.trans X1.out).trans (Ext.drewN _ _)⟩
          case measure => simp [intOf]; omega
        · have e3 : (mx == 3) = false := by simp [hm3]
          have HP : Hid (repP y x = true) := by show _ = _; rw [PP.out, hE, e3]; rfl
          have e2 : (mx != 3) = true := by simp [hm3]
          clear hE hm3 e3
          go_quiet (fail)
          clear e1 e2 c1_ s1_ s2_ s3_ q3_
          go_wp2
          go_roundw
          case rel => exact ⟨j + 1, by omega, by go_num, by rw [SU.out, HP.out]; go_num, (HX.out.trans X1.out).trans (Ext.drewN _ _)⟩
          case measure => simp [intOf]; omega
    · have ek : k = j := by omega
      subst ek
      go_wp2
      go_ret
      exact ⟨rfl, HX.out⟩

set_option maxRecDepth 100000 in
set_option maxHeartbeats 2000000 in
theorem s.bsRepeats_m (w : World) (A : Option Addr) (c B : Nat) (xs : List ItD) (k : Nat) (d : CoD) (h : LR kdItem w B A c xs) (hB : B ≤ w.heap.size) (hk : k < xs.length) (ho : LsOk d xs) :
    Calls Tryz.prog 121 #[.slice A xs.length c, .int .i64 k] w fun e w' => e = .returned (.int .i64 (repF xs k : Nat)) ∧ Ext w w' := by
  have H := hide h
  have a1 := h.1; have a2 := h.2.1
  have h14 := ho.n
  have HO := hide ho
  obtain ⟨y, hy⟩ : ∃ y, Hid (xs[k]? = some y) := ⟨_, List.getElem?_eq_getElem hk⟩
  have RF : Hid (repF xs k = repN xs y k) := by show _ = _; unfold repF; rw [getD_some hy.out]
  rw [RF.out]
  clear h ho RF
  obtain ⟨n, hn⟩ : ∃ n, Hid (xs.length = n) := ⟨_, rfl⟩
  rw [hn.out] at a1 h14 hk ⊢
  have R0 : Hid (repN xs y 0 = 0) := by show _ = _; simp [repN]
  go_enter Tryz.func121, Tryz.ntmps121
  go_wp2
  go_loopw [5, 12] (fun o i wr => ∃ (j : Nat), j ≤ k ∧ i = .int .i64 j ∧ o = .int .i64 (repN xs y j : Nat) ∧ Ext w wr) (fun _ i _ => k - (intOf i).toNat)
  case atStart => exact ⟨0, Nat.zero_le _, rfl, by rw [R0.out]; rfl, Ext.refl _⟩
  case round =>
    obtain ⟨j, hj, rfl, rfl, hx⟩ := hrel
    have HX := hide hx
    clear hx
    by_cases hlt : j < k
    · obtain ⟨x, hxj⟩ : ∃ x, Hid (xs[j]? = some x) := ⟨_, List.getElem?_eq_getElem (by rw [hn.out]; omega)⟩
      have sz := HX.out.size
      obtain ⟨b, off, A1, c1, A2, c2, rfl, hb, q0, q1, q2, r1, r2⟩ := (H.out.ext HX.out hB).item j x hxj.out
      obtain ⟨b', off', A3, c3, A4, c4, he, hb', q3, q4, q5, r3, r4⟩ := (H.out.ext HX.out hB).item k y hy.out
      simp only [Option.some.injEq, Addr.mk.injEq, and_true] at he
      obtain ⟨rfl, rfl⟩ := he
      have ix := HO.out.it j x hxj.out
      have iy := HO.out.it k y hy.out
      have x1 := ix.n1; have x3 := ix.n3; have xm := ix.ml; have y1 := iy.n1; have y3 := iy.n3
      obtain ⟨nx, hnx⟩ : ∃ nx, Hid (x.1[0]? = some nx) := get_ex x.1 0 (by omega)
      obtain ⟨ny, hny⟩ : ∃ ny, Hid (y.1[0]? = some ny) := get_ex y.1 0 (by omega)
      obtain ⟨mx, hmx⟩ : ∃ mx, Hid (x.2.1[0]? = some mx) := get_ex x.2.1 0 (by omega)
      obtain ⟨g1, o1, rfl, hg1, s1, -⟩ := r1.str 0 nx hnx.out
      obtain ⟨g2, o2, rfl, hg2, s2, -⟩ := r3.str 0 ny hny.out
      obtain ⟨g3, o3, rfl, hg3, s3⟩ := r2.intAt 0 mx hmx.out
      have l1 := r1.1; have l2 := r2.1; have l3 := r3.1; have l4 := r1.2.1; have l5 := r2.2.1; have l6 := r3.2.1
      simp only [Nat.add_zero] at s1 s2 s3
      obtain ⟨W1, hW1⟩ : ∃ W1, Hid (W1 = wr.alloc (.cells #[.slice (some ⟨g1, o1, none⟩) x.1.length c1, .slice (some ⟨g3, o3, none⟩) x.2.1.length c2, .bool x.2.2] 47)) := ⟨_, rfl⟩
      have X1 : Hid (Ext wr W1) := by rw [hW1.out]; exact Ext.alloc _ _
      have B1 : Hid (Blk W1 wr.heap.size #[.slice (some ⟨g1, o1, none⟩) x.1.length c1, .slice (some ⟨g3, o3, none⟩) x.2.1.length c2, .bool x.2.2] 47) := by rw [hW1.out]; exact Blk.new rfl _ _
      have s1_ : W1.cell? ⟨g1, o1, none⟩ = some (.string (bs nx)) := (X1.out.cell (by show g1 < _; omega)).trans s1
      have s2_ : W1.cell? ⟨g2, o2, none⟩ = some (.string (bs ny)) := (X1.out.cell (by show g2 < _; omega)).trans s2
      have s3_ : W1.cell? ⟨g3, o3, none⟩ = some (.int .i64 mx) := (X1.out.cell (by show g3 < _; omega)).trans s3
      have q3_ : W1.cell? ⟨b, off + k * 3, none⟩ = some (.slice (some ⟨g2, o2, none⟩) y.1.length c3) := (X1.out.cell (by show b < _; omega)).trans q3
      have SU := hide (repN_succ hxj.out y)
      have PP : Hid (repP y x = ((nx == ny) && !(mx == 3))) := by show _ = _; unfold repP; rw [getD_some hnx.out, getD_some hny.out, getD_some hmx.out]
      have RL := repN_le xs y j
      have ML := hide xm
      clear r1 r2 r3 r4 s1 s2 s3 q3 q4 q5 ix iy xm
      obtain ⟨n1, hn1⟩ : ∃ n1, Hid (x.1.length = n1) := ⟨_, rfl⟩
      rw [hn1.out] at ML
      rw [ML.out] at q1 l2 hW1 B1
      rw [hn1.out] at q0 l1 hW1 B1 x1 x3
      have p1 : 0 < n1 := x1
      generalize y.1.length = n2 at *
      generalize x.2.2 = m3 at *
      generalize repN xs y j = Q at *
      have E1 : Hid (((bs nx).toList == (bs ny).toList) = (nx == ny)) := by show _ = _; rw [bs_toList, bs_toList]
      generalize bs nx = bx at *
      generalize bs ny = bY at *
      go_wp2
      rw [← hW1.out]
      clear hW1 q0 q1 q2
      have c1_ := B1.out.cell
      have i1 : (k : Int) < n := by omega
      cases hE : (nx == ny)
      · have e1 := E1.out
        rw [hE] at e1
        have HP : Hid (repP y x = false) := by show _ = _; rw [PP.out, hE]; rfl
        clear hE
        go_quiet (fail)
        clear e1 c1_ s1_ s2_ s3_ q3_
        go_wp2
        go_roundw
        case rel => exact ⟨j + 1, by omega, by go_num, by rw [SU.out, HP.out]; rfl, (HX.out.trans X1.out).trans (Ext.drewN _ _)⟩
        case measure => simp [intOf]; omega
      · have e1 := E1.out
        rw [hE] at e1
        by_cases hm3 : mx = 3
        · have HP : Hid (repP y x = false) := by show _ = _; rw [PP.out, hE, hm3]; rfl
          have e2 : (mx != 3) = false := by simp [hm3]
          clear hE hm3
          go_quiet (fail)
          clear e1 e2 c1_ s1_ s2_ s3_ q3_
          go_wp2
          go_roundw
          case rel => exact ⟨j + 1, by omega, by go_num, by rw [SU.out, HP.out]; rfl, (HX.out.trans X1.out).trans (Ext.drewN _ _)⟩
          case measure => simp [intOf]; omega
        · have e3 : (mx == 3) = false := by simp [hm3]
          have HP : Hid (repP y x = true) := by show _ = _; rw [PP.out, hE, e3]; rfl
          have e2 : (mx != 3) = true := by simp [hm3]
          clear hE hm3 e3
          go_quiet (fail)
          clear e1 e2 c1_ s1_ s2_ s3_ q3_
          go_wp2
          go_roundw
          case rel => exact ⟨j + 1, by omega, by go_num, by rw [SU.out, HP.out]; go_num, (HX.out.trans X1.out).trans (Ext.drewN _ _)⟩
          case measure => simp [intOf]; omega
    · have ek : k = j := by omega
      subst ek
      go_wp2
      go_ret
      exact ⟨rfl, HX.out⟩

set_option maxRecDepth 100000 in
set_option maxHeartbeats 2000000 in
theorem i.itemBase_m (w : World) (v : Value) (d : CoD) (A : Option Addr) (c B : Nat) (xs : List ItD) (k : Nat) (h : kC.rd w v d) (hok : kC.ok d) (hd : CodeOk d) (hl : LR kdItem w B A c xs) (hB : B ≤ w.heap.size) (ho : LsOk d xs) (hk : k < xs.length) :
    Calls Tryz.prog 54 #[v, .slice A xs.length c, .int .i64 k] w fun e w' => e = .returned (.int .i64 (baseF d xs k)) ∧ Ext w w' := by
  obtain ⟨Ac, cc, Al, cl, rfl, _⟩ := kC.lr h
  have HR := hide h
  have rb := hd.rep
  obtain ⟨nc, NC⟩ : ∃ z, Hid (d.1.length = z) := ⟨_, rfl⟩
  obtain ⟨nl, NL⟩ : ∃ z, Hid (d.2.1.length = z) := ⟨_, rfl⟩
  obtain ⟨r, RN⟩ : ∃ z, Hid (d.2.2.1 = z) := ⟨_, rfl⟩
  obtain ⟨b, BN⟩ : ∃ z, Hid (d.2.2.2.1 = z) := ⟨_, rfl⟩
  obtain ⟨p, PN⟩ : ∃ z, Hid (d.2.2.2.2.1 = z) := ⟨_, rfl⟩
  obtain ⟨f, FN⟩ : ∃ z, Hid (d.2.2.2.2.2 = z) := ⟨_, rfl⟩
  rw [NC.out, NL.out, RN.out, BN.out, PN.out, FN.out] at HR ⊢
  rw [RN.out] at rb
  have h14 := ho.n
  obtain ⟨x, hx⟩ : ∃ x, Hid (xs[k]? = some x) := ⟨_, List.getElem?_eq_getElem hk⟩
  have RX := hide (fun (wq : World) (xq : Ext w wq) => (hl.ext xq hB).item k x hx.out)
  have BF : Hid (baseF d xs k = if (repF xs k : Int) < r then fullF d x else if (repF xs k : Int) = r then fullF d x * 7 / 10 else 0) := by show _ = _; unfold baseF; rw [getD_some hx.out, RN.out]
  have fb := fullF_bd hd x (ho.it k x hx.out).n3
  have rl := repN_le xs (xs.getD k noItem) k
  have rl : repF xs k ≤ k := rl
  have RPS := hide (fun (wq : World) (xq : Ext w wq) => i.repeatsOf_m wq A c B xs k d (hl.ext xq hB) (Nat.le_trans hB xq.size) hk ho)
  obtain ⟨W0, hW0⟩ : ∃ W0, Hid (W0 = w.alloc (.cells #[.slice Ac nc cc, .slice Al nl cl, .int .i64 r, .int .i64 b, .int .i64 p, .int .i64 f] 26)) := ⟨_, rfl⟩
  have X0 : Hid (Ext w W0) := by rw [hW0.out]; exact Ext.alloc w _
  have B0 : Hid (Blk W0 w.heap.size #[.slice Ac nc cc, .slice Al nl cl, .int .i64 r, .int .i64 b, .int .i64 p, .int .i64 f] 26) := by rw [hW0.out]; exact Blk.new rfl _ _
  obtain ⟨bb, off, A1, c1, A2, c2, rfl, hb, q0, q1, q2, r1, r2⟩ := RX.out W0 X0.out
  have FB := hide (fun dd os => ext_regrown (i.fullBase_m (grow (redrawn W0 dd) os) _ d _ x (kC.rd_ext HR.out (X0.out.trans (ext_re W0 dd os))) hok hd (kdItem.rd_more (kdItem.rd_ext (kdItem.rd_more (kdItem.mk_ r1 r2) (Nat.le_trans hB X0.out.size)) (ext_re W0 dd os) (Nat.le_refl _)) (ext_re W0 dd os).size) (ho.it k x hx.out)))
  have RP := hide (fun dd os => ext_regrown (RPS.out (grow (redrawn W0 dd) os) (X0.out.trans (ext_re W0 dd os))))
  rw [kdItem.val3] at FB
  have a1 := hl.1; have a2 := hl.2.1
  clear r1 r2 h hl ho hd RX
  obtain ⟨n, hn⟩ : ∃ n, Hid (xs.length = n) := ⟨_, rfl⟩
  rw [hn.out] at hk h14 a1 RP RPS ⊢
  obtain ⟨R, hR⟩ : ∃ R, Hid (baseF d xs k = R) := ⟨_, rfl⟩
  rw [hR.out] at BF ⊢
  have i1 : (k : Int) < n := by omega
  have c0_ := fun dd os => (B0.out.ext (ext_re W0 dd os)).cell
  have v0 := fun dd os => cell_regrown q0 dd os
  have v1 := fun dd os => cell_regrown q1 dd os
  have v2 := fun dd os => cell_regrown q2 dd os
  clear q0 q1 q2
  generalize repF xs k = Q at *
  generalize fullF d x = FU at *
  generalize x.1.length = m1 at *
  generalize x.2.1.length = m2 at *
  generalize x.2.2 = m3 at *
  go_enter Tryz.func54, Tryz.ntmps54
  go_wp2
  rw [← hW0.out]
  clear hW0
  refine wp_region_quiet_below (by kernel_rfl) (by kernel_rfl) ?_
  repeat (go_big_quiet_step (first | (go_at_call 95; exact FB.out _ _) | (go_at_call 94; exact RP.out _ _)))
  refine wpQuiet_nil ?_
  intro _ hw'
  obtain ⟨⟨dq, osq⟩, hw''⟩ := hw'
  subst hw''
  have Y2 := hide (X0.out.trans (ext_re W0 dq osq))
  have B2 := hide (B0.out.ext (ext_re W0 dq osq))
  clear c0_ v0 v1 v2
  generalize grow (redrawn W0 dq) osq = w2 at *
  have cB := B2.out.cell
  by_cases h1 : (Q : Int) < r
  · have HF : Hid (R = FU) := by show _ = _; rw [BF.out, if_pos h1]
    go_wp2
    go_ret
    exact ⟨ret_int HF.out.symm, Y2.out⟩
  · by_cases h2 : (Q : Int) = r
    · have HF : Hid (R = FU * 7 / 10) := by show _ = _; rw [BF.out, if_neg h1, if_pos h2]
      have e1 : ((Q : Int) == r) = true := by simp [h2]
      clear h2
      go_wp2
      go_ret
      exact ⟨ret_int HF.out.symm, Y2.out⟩
    · have HF : Hid (R = 0) := by show _ = _; rw [BF.out, if_neg h1, if_neg h2]
      have e1 : ((Q : Int) == r) = false := by simp [h2]
      clear h2
      go_wp2
      go_ret
      exact ⟨ret_int HF.out.symm, Y2.out⟩

set_option maxRecDepth 100000 in
set_option maxHeartbeats 2000000 in
theorem s.bsItem_m (w : World) (v : Value) (d : CoD) (A : Option Addr) (c B : Nat) (xs : List ItD) (k : Nat) (h : kC.rd w v d) (hok : kC.ok d) (hd : CodeOk d) (hl : LR kdItem w B A c xs) (hB : B ≤ w.heap.size) (ho : LsOk d xs) (hk : k < xs.length) :
    Calls Tryz.prog 90 #[v, .slice A xs.length c, .int .i64 k] w fun e w' => e = .returned (.int .i64 (baseF d xs k)) ∧ Ext w w' := by
  obtain ⟨Ac, cc, Al, cl, rfl, _⟩ := kC.lr h
  have HR := hide h
  have rb := hd.rep
  obtain ⟨nc, NC⟩ : ∃ z, Hid (d.1.length = z) := ⟨_, rfl⟩
  obtain ⟨nl, NL⟩ : ∃ z, Hid (d.2.1.length = z) := ⟨_, rfl⟩
  obtain ⟨r, RN⟩ : ∃ z, Hid (d.2.2.1 = z) := ⟨_, rfl⟩
  obtain ⟨b, BN⟩ : ∃ z, Hid (d.2.2.2.1 = z) := ⟨_, rfl⟩
  obtain ⟨p, PN⟩ : ∃ z, Hid (d.2.2.2.2.1 = z) := ⟨_, rfl⟩
  obtain ⟨f, FN⟩ : ∃ z, Hid (d.2.2.2.2.2 = z) := ⟨_, rfl⟩
  rw [NC.out, NL.out, RN.out, BN.out, PN.out, FN.out] at HR ⊢
  rw [RN.out] at rb
  have h14 := ho.n
  obtain ⟨x, hx⟩ : ∃ x, Hid (xs[k]? = some x) := ⟨_, List.getElem?_eq_getElem hk⟩
  have RX := hide (fun (wq : World) (xq : Ext w wq) => (hl.ext xq hB).item k x hx.out)
  have BF : Hid (baseF d xs k = if (repF xs k : Int) < r then fullF d x else if (repF xs k : Int) = r then fullF d x * 7 / 10 else 0) := by show _ = _; unfold baseF; rw [getD_some hx.out, RN.out]
  have fb := fullF_bd hd x (ho.it k x hx.out).n3
  have rl := repN_le xs (xs.getD k noItem) k
  have rl : repF xs k ≤ k := rl
  have RPS := hide (fun (wq : World) (xq : Ext w wq) => s.bsRepeats_m wq A c B xs k d (hl.ext xq hB) (Nat.le_trans hB xq.size) hk ho)
  obtain ⟨W0, hW0⟩ : ∃ W0, Hid (W0 = w.alloc (.cells #[.slice Ac nc cc, .slice Al nl cl, .int .i64 r, .int .i64 b, .int .i64 p, .int .i64 f] 26)) := ⟨_, rfl⟩
  have X0 : Hid (Ext w W0) := by rw [hW0.out]; exact Ext.alloc w _
  have B0 : Hid (Blk W0 w.heap.size #[.slice Ac nc cc, .slice Al nl cl, .int .i64 r, .int .i64 b, .int .i64 p, .int .i64 f] 26) := by rw [hW0.out]; exact Blk.new rfl _ _
  obtain ⟨bb, off, A1, c1, A2, c2, rfl, hb, q0, q1, q2, r1, r2⟩ := RX.out W0 X0.out
  have FB := hide (fun dd os => ext_regrown (s.bsFull_m (grow (redrawn W0 dd) os) _ d _ x (kC.rd_ext HR.out (X0.out.trans (ext_re W0 dd os))) hok hd (kdItem.rd_more (kdItem.rd_ext (kdItem.rd_more (kdItem.mk_ r1 r2) (Nat.le_trans hB X0.out.size)) (ext_re W0 dd os) (Nat.le_refl _)) (ext_re W0 dd os).size) (ho.it k x hx.out)))
  have RP := hide (fun dd os => ext_regrown (RPS.out (grow (redrawn W0 dd) os) (X0.out.trans (ext_re W0 dd os))))
  rw [kdItem.val3] at FB
  have a1 := hl.1; have a2 := hl.2.1
  clear r1 r2 h hl ho hd RX
  obtain ⟨n, hn⟩ : ∃ n, Hid (xs.length = n) := ⟨_, rfl⟩
  rw [hn.out] at hk h14 a1 RP RPS ⊢
  obtain ⟨R, hR⟩ : ∃ R, Hid (baseF d xs k = R) := ⟨_, rfl⟩
  rw [hR.out] at BF ⊢
  have i1 : (k : Int) < n := by omega
  have c0_ := fun dd os => (B0.out.ext (ext_re W0 dd os)).cell
  have v0 := fun dd os => cell_regrown q0 dd os
  have v1 := fun dd os => cell_regrown q1 dd os
  have v2 := fun dd os => cell_regrown q2 dd os
  clear q0 q1 q2
  generalize repF xs k = Q at *
  generalize fullF d x = FU at *
  generalize x.1.length = m1 at *
  generalize x.2.1.length = m2 at *
  generalize x.2.2 = m3 at *
  go_enter Tryz.func90, Tryz.ntmps90
  go_wp2
  rw [← hW0.out]
  clear hW0
  refine wp_region_quiet_below (by kernel_rfl) (by kernel_rfl) ?_
  repeat (go_big_quiet_step (first | (go_at_call 120; exact FB.out _ _)))
  refine wpQuiet_nil ?_
  intro _ hw'
  obtain ⟨⟨dq, osq⟩, hw''⟩ := hw'
  subst hw''
  have Y2 := hide (X0.out.trans (ext_re W0 dq osq))
  have B2 := hide (B0.out.ext (ext_re W0 dq osq))
  clear c0_ v0 v1 v2
  generalize grow (redrawn W0 dq) osq = w2 at *
  have RQ := hide (RPS.out w2 Y2.out)
  go_wp2_with fail
  refine RQ.out.mono ?_
  rintro e w3 ⟨rfl, x3⟩
  replace Y2 := hide (Y2.out.trans x3)
  replace B2 := hide (B2.out.ext x3)
  clear x3 RQ
  have cB := B2.out.cell
  by_cases h1 : (Q : Int) < r
  · have HF : Hid (R = FU) := by show _ = _; rw [BF.out, if_pos h1]
    go_wp2
    go_ret
    exact ⟨ret_int HF.out.symm, Y2.out⟩
  · by_cases h2 : (Q : Int) = r
    · have HF : Hid (R = FU * 7 / 10) := by show _ = _; rw [BF.out, if_neg h1, if_pos h2]
      have e1 : ((Q : Int) == r) = true := by simp [h2]
      clear h2
      go_wp2
      go_ret
      exact ⟨ret_int HF.out.symm, Y2.out⟩
    · have HF : Hid (R = 0) := by show _ = _; rw [BF.out, if_neg h1, if_neg h2]
      have e1 : ((Q : Int) == r) = false := by simp [h2]
      clear h2
      go_wp2
      go_ret
      exact ⟨ret_int HF.out.symm, Y2.out⟩

end Go.Proofs.YtaoeomgehpdedaaGreat
